/- The walk of squeeze.Squeeze, whatever the least store is. The walk of Wholes at a Vec of eight-bit numbers. The walk of fold.wholes where every step goes in .. Conditions: as each theorem says. -/
import Derived.Test.YtbakjaliponbbaaGreatDoorMg06
import Derived.Deep.RegionHeld3
import Derived.Deep.CutRange
import Derived.Laws.MakeOwn
import Derived.Deep.QuietTactic
import Derived.BigQuiet
import Derived.Test.YtbakjaliponbbaaGreatDoorMg04
set_option maxRecDepth 100000
set_option maxHeartbeats 2000000
namespace Go.Proofs.YtbakjaliponbbaaGreatDoor
open Go Go.RowKit Go.Proofs Fl
theorem St.al {w W:World}{k:Int}{b:Value}{bn:Int}{s i f c x:Value} (h:St w W k b bn s i f c x) (o:Obj):St w (W.alloc o) k b bn s i f c x:=h.step (bel1 W o)
theorem St.dr {w W:World}{k:Int}{b:Value}{bn:Int}{s i f c x:Value} (h:St w W k b bn s i f c x):St w W.drew k b bn s i f c x:=h.step (Below.refl _ W).drew
theorem St.put {w W:World}{k:Int}{b:Value}{bn:Int}{s i f c x:Value} (h:St w W k b bn s i f c x){g j:Nat} (ha:w.heap.size+2<=g) (u:Value):St w (W.setCell ⟨g,j,none⟩ u) k b bn s i f c x :=
 ⟨h.box.set (by show g≠_;omega) u,by rw [Below.heap_setCell _ _ _ _ (by show _≠g;omega)];exact h.res,h.bel.setCell (by show _<=g;omega) u⟩
theorem St.sz {w W:World}{k:Int}{b:Value}{bn:Int}{s i f c x:Value} (h:St w W k b bn s i f c x):w.heap.size+2<=W.heap.size:=(boxed_of h.res).1.lt
theorem bcell2 {W w1:World} (hb:Below W.heap.size W w1):(∀ b o,b < W.heap.size->w1.cell? ⟨b,o,none⟩=W.cell? ⟨b,o,none⟩)/\(∀ b o,b < W.heap.size->w1.frozen? ⟨b,o,none⟩=W.frozen? ⟨b,o,none⟩) :=
 ⟨fun b o h=>hb.cell (p:=⟨b,o,none⟩) h,fun b o h=>hb.frozen (p:=⟨b,o,none⟩) h⟩
abbrev Sl:=Option Addr×Nat×Nat
abbrev vecW (k:Int) (b:Sl) (bn:Int) (s i f c x:Sl):Value:=vecV k (.slice b.1 b.2.1 b.2.2) bn (.slice s.1 s.2.1 s.2.2) (.slice i.1 i.2.1 i.2.2) (.slice f.1 f.2.1 f.2.2) (.slice c.1 c.2.1 c.2.2) (.slice x.1 x.2.1 x.2.2)
def IntoR (H:Nat->Prop) (w W:World) (R:Value->World->Prop) (e:Ending) (w':World):Prop :=
 ∃ (k:Int) (b:Sl) (bn:Int) (s i f c x:Sl),e= .returned (.tuple #[vecW k b bn s i f c x,.bool true])/\Keeps (Hole H w W) w' (R (vecW k b bn s i f c x))/\Below W.heap.size W w'
def SqMid (H:Nat->Prop) (w:World) (R:Value->World->Prop) (p:Value) (wx:World):Prop :=
 ∃ (G:Nat) (k:Int) (b:Sl) (bn:Int) (s i f c x:Sl),p= .pointer (some ⟨G,0,none⟩)/\wx.heap[G]?=some (.cells #[.int .i64 k,.slice b.1 b.2.1 b.2.2,.int .i64 bn,.slice s.1 s.2.1 s.2.2,.slice i.1 i.2.1 i.2.2,.slice f.1 f.2.1 f.2.2,.slice c.1 c.2.1 c.2.2,.slice x.1 x.2.1 x.2.2] 57)/\w.heap.size+2<=G /\
  wx.heap[w.heap.size+1]?=some (.cells zcells 57)/\Keeps (fun b=>H b\/(w.heap.size<=b/\b < w.heap.size+2)) wx (R (vecW k b bn s i f c x))/\Below w.heap.size w wx
def VecR (H:Nat->Prop) (w:World) (R:Value->World->Prop) (e:Ending) (w':World):Prop :=
 ∃ (k:Int) (b:Sl) (bn:Int) (s i f c x:Sl),e= .returned (vecW k b bn s i f c x)/\Keeps H w' (R (vecW k b bn s i f c x))/\Below w.heap.size w w'
theorem sqMid_of {H:Nat->Prop}{w W wx:World}{R:Value->World->Prop}{G:Nat}{k:Int}{b:Sl}{bn:Int}{s i f c x:Sl} (hW:w.heap.size+2<=W.heap.size) (hG:w.heap.size+2<=G)
  (h1:wx.heap[G]?=some (.cells #[.int .i64 k,.slice b.1 b.2.1 b.2.2,.int .i64 bn,.slice s.1 s.2.1 s.2.2,.slice i.1 i.2.1 i.2.2,.slice f.1 f.2.1 f.2.2,.slice c.1 c.2.1 c.2.2,.slice x.1 x.2.1 x.2.2] 57)) (h2:wx.heap[w.heap.size+1]?=some (.cells zcells 57))
  (h3:Keeps (Hole H w W) wx (R (vecW k b bn s i f c x))) (h4:Below w.heap.size w wx):SqMid H w R (.pointer (some ⟨G,0,none⟩)) wx :=
 ⟨G,k,b,bn,s,i,f,c,x,rfl,h1,hG,h2,h3.sub (fun j _ e=>by rcases e with e | ⟨e1,e2⟩;exact .inl e;exact .inr ⟨e1,by omega⟩),h4⟩
theorem sq_s {w W:World}{k:Int}{b:Value}{bn:Int}{s i f c x:Value} (h:St w W k b bn s i f c x):(W.cell? ⟨w.heap.size,0,none⟩=some (.int .i64 k)/\W.cell? ⟨w.heap.size,1,none⟩=some b/\W.cell? ⟨w.heap.size,2,none⟩=some (.int .i64 bn)/\W.cell? ⟨w.heap.size,3,none⟩=some s/\W.cell? ⟨w.heap.size,4,none⟩=some i/\W.cell? ⟨w.heap.size,5,none⟩=some f/\W.cell? ⟨w.heap.size,6,none⟩=some c/\W.cell? ⟨w.heap.size,7,none⟩=some x)/\St w W k b bn s i f c x:=⟨h.box,h⟩
theorem sqz1 {w0:World}{a:Obj}{n:Nat} (h:((w0.alloc a).drew).heap.size<=n):w0.heap.size < n:=by simp [World.drew] at h;omega
theorem St.put8 {w W:World}{k:Int}{b:Value}{bn:Int}{s i f c x:Value} (h:St w W k b bn s i f c x){G:Nat} (hG:w.heap.size+2<=G) (a0 a1 a2 a3 a4 a5 a6 a7:Value):St w (set8 W G a0 a1 a2 a3 a4 a5 a6 a7) k b bn s i f c x :=
 (((((((h.put hG _).put hG _).put hG _).put hG _).put hG _).put hG _).put hG _).put hG _
theorem sqMid_set {H:Nat->Prop}{w W w2:World}{R:Value->World->Prop}{G:Nat}{k:Int}{b:Value}{bn:Int}{s i f c x:Value}{k2:Int}{b2:Sl}{bn2:Int}{s2 i2 f2 c2 x2:Sl} (hW:w.heap.size+2<=W.heap.size) (hG:w.heap.size+2<=G) (hGW:G < W.heap.size)
  (h1:w2.heap[G]?=some (.cells zcells 57)) (hs:St w w2 k b bn s i f c x) (hk:Keeps (Hole H w W) w2 (R (vecW k2 b2 bn2 s2 i2 f2 c2 x2))) :
  SqMid H w R (.pointer (some ⟨G,0,none⟩)) (set8 w2 G (.int .i64 k2) (.slice b2.1 b2.2.1 b2.2.2) (.int .i64 bn2) (.slice s2.1 s2.2.1 s2.2.2) (.slice i2.1 i2.2.1 i2.2.2) (.slice f2.1 f2.2.1 f2.2.2) (.slice c2.1 c2.2.1 c2.2.2) (.slice x2.1 x2.2.1 x2.2.2)) :=
 sqMid_of hW hG (set8_block h1 _ _ _ _ _ _ _ _) (hs.put8 hG _ _ _ _ _ _ _ _).res (hk.set8 (.inr ⟨by omega,hGW⟩) _ _ _ _ _ _ _ _) (hs.put8 hG _ _ _ _ _ _ _ _).bel
theorem sqMid_new {H:Nat->Prop}{w W w2:World}{R:Value->World->Prop}{k:Int}{b:Value}{bn:Int}{s i f c x:Value}{k2:Int}{b2:Sl}{bn2:Int}{s2 i2 f2 c2 x2:Sl} (hW:w.heap.size+2<=W.heap.size)
  (hs:St w w2 k b bn s i f c x) (hk:Keeps (Hole H w W) w2 (R (vecW k2 b2 bn2 s2 i2 f2 c2 x2))) :
  SqMid H w R (.pointer (some ⟨w2.heap.size,0,none⟩)) (w2.alloc (.cells #[.int .i64 k2,.slice b2.1 b2.2.1 b2.2.2,.int .i64 bn2,.slice s2.1 s2.2.1 s2.2.2,.slice i2.1 i2.2.1 i2.2.2,.slice f2.1 f2.2.1 f2.2.2,.slice c2.1 c2.2.1 c2.2.2,.slice x2.1 x2.2.1 x2.2.2] 57)) :=
 sqMid_of hW hs.sz (heap_alloc_new w2 _) (hs.al _).res (hk.step (bel1 w2 _)) (hs.al _).bel
theorem sqz_blk {w1 w2:World}{o:Obj} (hb:Below (w1.alloc o).heap.size (w1.alloc o) w2):w2.heap[w1.heap.size]?=some o:=block_up hb
theorem sqz_old {w0 w1 w2:World}{o:Obj} (hb2:Below w1.heap.size w1 w2) (hb1:Below ((w0.alloc o).drew).heap.size ((w0.alloc o).drew) w1):w2.heap[w0.heap.size]?=some o:=by
 have h1:w1.heap[w0.heap.size]?=some o:=by
  rw [hb1.block _ (by simp [World.drew])]
  exact heap_alloc_new w0 o
 rw [hb2.block _ (lt_of_block h1)]
 exact h1
theorem sqz_le {n:Nat}{w1:World} (h:n<=w1.heap.size) (o:Obj):n<=(w1.alloc o).heap.size:=by simp;omega
theorem sqz_lt (w1:World) (o:Obj):w1.heap.size < (w1.alloc o).heap.size:=by simp
theorem squeeze_any (H:Nat->Prop) (R:Value->World->Prop) (kd:Int) (k:Int) (b:Value) (bn:Int) (s i f c x:Value) (w:World)
  (hle:∀ W,Below w.heap.size w W->Calls Tryz.prog 195 #[vecV k b bn s i f c x] W fun e w'=>e= .returned (.int .i64 kd)/\Below W.heap.size W w')
  (hin:∀ W,Below w.heap.size w W->Calls Tryz.prog 194 #[vecV k b bn s i f c x,.int .i64 kd] W (IntoR H w W R)) :
  Calls Tryz.prog 141 #[vecV k b bn s i f c x] w (VecR H w R):=by
 have HL:=Lib.hid hle
 have HI:=Lib.hid hin
 have HS0:=Lib.hid (St.new w k b bn s i f c x)
 clear hle hin
 go_enter Tryz.func141,Tryz.ntmps141
 go_wp2_with fail
 obtain ⟨w0,hw0⟩:∃ w0,w0=(w.alloc (.cells #[.int .i64 k,b,.int .i64 bn,s,i,f,c,x] 57)).alloc (.cells zcells 57):=⟨_,rfl⟩
 rw [<- hw0] at HS0 ⊢
 clear hw0
 have hz0:=HS0.out.sz
 go_cut [3,4] from 5 (fun p ok wx=>ok= .bool true/\SqMid H w R p wx)
 case first =>
  have hs0:=HS0.out.dr
  have hs00:=HS0.out
  go_region_held3 (fun W=>(W.cell? ⟨w.heap.size,0,none⟩=some (.int .i64 k)/\W.cell? ⟨w.heap.size,1,none⟩=some b/\W.cell? ⟨w.heap.size,2,none⟩=some (.int .i64 bn)/\W.cell? ⟨w.heap.size,3,none⟩=some s/\W.cell? ⟨w.heap.size,4,none⟩=some i/\W.cell? ⟨w.heap.size,5,none⟩=some f/\W.cell? ⟨w.heap.size,6,none⟩=some c/\W.cell? ⟨w.heap.size,7,none⟩=some x)/\St w W k b bn s i f c x)
   (first | (with_reducible assumption) | (with_reducible (refine sq_s ?_);repeat (first | (with_reducible assumption) | (with_reducible refine St.dr ?_) | (with_reducible refine St.put ?_ (by first | assumption | omega | (simp;omega)) _) | (with_reducible refine St.al ?_ _))))
   (first
    | (go_at_call 195;(with_reducible refine (HL.out _ ?_).mono ?_);exact St.bel (k:=k) (b:=b) (bn:=bn) (s:=s) (i:=i) (f:=f) (c:=c) (x:=x) (by repeat (first | (with_reducible assumption) | (with_reducible refine St.dr ?_) | (with_reducible refine St.al ?_ _)));rintro e w1 ⟨rfl,hb1⟩;obtain ⟨hc1,hf1⟩:=bcell2 hb1;have hz1:=hb1.size;(first | (have hy1:w0.heap.size < w1.heap.size:=sqz1 hz1) | skip);have hst1:St w w1 k b bn s i f c x:=St.step (by repeat (first | (with_reducible assumption) | (with_reducible refine St.dr ?_) | (with_reducible refine St.al ?_ _))) hb1;have hg1:w.heap.size+2<=w1.heap.size:=hst1.sz;have HB1:=Lib.hid hb1;clear hb1)
    | (go_at_call 194;(with_reducible refine (HI.out _ ?_).mono ?_);exact St.bel (k:=k) (b:=b) (bn:=bn) (s:=s) (i:=i) (f:=f) (c:=c) (x:=x) (by repeat (first | (with_reducible assumption) | (with_reducible refine St.dr ?_) | (with_reducible refine St.al ?_ _)));rintro e w2 ⟨k2,b2,bn2,s2,i2,f2,c2,x2,rfl,hk2,hb2⟩;obtain ⟨hc2,hf2⟩:=bcell2 hb2;have hz2:=hb2.size;have hst2:St w w2 k b bn s i f c x:=St.step (by repeat (first | (with_reducible assumption) | (with_reducible refine St.dr ?_) | (with_reducible refine St.al ?_ _))) hb2;have HB2:=Lib.hid hb2;have HK2:=Lib.hid hk2;clear hb2 hk2))
  all_goals
   go_wp2
   go_meet
   refine ⟨rfl,?_⟩
   first
    | (with_reducible exact sqMid_new (W:=w1) hg1 hst2 HK2.out)
    | (with_reducible exact sqMid_set (W:=w1) hg1 hz0 hy1 (sqz_old HB2.out HB1.out) hst2 HK2.out)
    | (with_reducible exact sqMid_set (W:=w1.alloc _) (sqz_le hg1 _) hg1 (sqz_lt _ _) (sqz_blk HB2.out) hst2 HK2.out)
 case rest =>
  obtain ⟨rfl,G,k2,b2,bn2,s2,i2,f2,c2,x2,rfl,hG,hGs,hR,hK,hB⟩:=hcut
  have HG:=Lib.hid hG
  have HR:=Lib.hid hR
  have HK:=Lib.hid hK
  have HB:=Lib.hid hB
  clear hG hR hK hB
  have HGS:=Lib.hid hGs
  clear hGs
  obtain ⟨⟨h0,h1,h2,h3,h4,h5,h6,h7⟩,hz⟩:=boxed_of HR.out
  obtain ⟨⟨g0,g1,g2,g3,g4,g5,g6,g7⟩,gz⟩:=boxed_of HG.out
  clear gz
  go_wp2
  refine bodyPost_ret (ret_vec rfl _ _ _ rfl (set8_block HR.out _ _ _ _ _ _ _ _)) rfl ?_
  exact ⟨k2,b2,bn2,s2,i2,f2,c2,x2,rfl,(HK.out.set8 (.inr ⟨by omega,by omega⟩) _ _ _ _ _ _ _ _).sub (fun _ _ e => .inl e),below_set8 HB.out (Nat.le_succ _) _ _ _ _ _ _ _ _⟩
theorem info_i64:(Tryz.prog.info? 2).map (fun i=>(i.zero,i.size,i.bytes))=some (some (.int .i64 0),1,8):=by kernel_rfl
theorem ints_zero (a:Option Addr) (c:Nat) (w:World) :
  Calls Tryz.prog 228 #[.slice a 0 c] w fun e w'=>∃ u,e= .returned (.tuple #[vecV 3 vnil 0 vnil u vnil vnil vnil,.bool true])/\Own1 w' w.heap.size 2 u (([]:List Int).map (.int .i64))/\Below w.heap.size w w':=by
 have HC:=Lib.hid (fun w2 (_:Below w.heap.size w w2)=>cl64_any (w:=w2) (v := .slice a 0 c) (xs:=([]:List Int).map (.int .i64)) (.inl ⟨a,c,rfl,rfl⟩) (by simp) (by simp))
 go_enter Tryz.func228,Tryz.ntmps228
 go_wp2
 refine wp_loop_rounds 1 ?_
 rw [rounds_succ]
 go_wp2_with fail
 refine (HC.out _ (bel1 _ _)).mono ?_
 rintro e w1 ⟨u,rfl,ho,hb1⟩
 have HB1:=Lib.hid ((bel1 w _).trans (hb1.mono (bel1 w _).size))
 obtain ⟨h0,h1,h2,h3,h4,h5,h6,h7⟩:=(boxed_new w 57 0 vnil 0 vnil vnil vnil vnil vnil).below hb1
 have HK:=Lib.hid (block_up hb1)
 have hz:∀ j,w1.frozen? ⟨w.heap.size,j,none⟩=false:=fun j=>by rw [hb1.frozen (by simp)];exact frozen_new _ _ _ _
 have HNE:Hid (u.ownBlock≠some w.heap.size):=fun e=>by have:=(World.ownsRow.lt ho _ e).1;simp at this;omega
 have HO:=Lib.hid ho
 obtain ⟨a,n,c,hu⟩:∃ a n c,u= .slice a n c:=by obtain ⟨a,c,e⟩:=ho.reads.len;exact ⟨a,_,c,e⟩
 subst hu
 clear hb1 ho
 go_wp2
 refine bodyPost_ret (v := .tuple #[vecV 3 vnil 0 vnil (.slice a n c) vnil vnil vnil,.bool true]) ?_ rfl ⟨.slice a n c,rfl,own_set8 (HO.out.lower (by simp)) HNE.out _ _ _ _ _ _ _ _,below_set8 HB1.out (Nat.le_refl _) _ _ _ _ _ _ _ _⟩
 exact ret_vec2 (fn:=Tryz.f228) (p:=2) (u:=3) rfl _ _ w.heap.size (by rfl) (set8_block HK.out _ _ _ _ _ _ _ _)
theorem ints_any {w:World}{v:Value}{l:List Int} (h:Reads1 w v (l.map (.int .i64))) (hl:l.length<=1000000) (hg:∀ x∈l,Good x) :
  Calls Tryz.prog 228 #[v] w fun e w'=>∃ u,e= .returned (.tuple #[vecV 3 vnil 0 vnil u vnil vnil vnil,.bool true])/\Own1 w' w.heap.size 2 u (l.map (.int .i64))/\Below w.heap.size w w':=by
 rcases h.at with ⟨a,c,rfl,h0⟩ | ⟨b,o,c,rfl,hc⟩
 ·have:=List.map_eq_nil_iff.1 h0
  subst this
  exact ints_zero a c w
 ·rw [List.length_map]
  exact ints_walk b o _ c l rfl hl w (fun i hi=>by have:=hc i (by simpa using hi);simpa using this) hg
def Vec2R (H:Nat->Prop) (w:World) (R:Value->World->Prop) (e:Ending) (w':World):Prop :=
 ∃ (k:Int) (b:Sl) (bn:Int) (s i f c x:Sl),e= .returned (.tuple #[vecW k b bn s i f c x,.bool true])/\Keeps H w' (R (vecW k b bn s i f c x))/\Below w.heap.size w w'
theorem text_any (b:Value) (bn:Int) (s i f x:Value){w:World}{v:Value}{l:List Int} (h:Reads1 w v (l.map (.int .i32))) (hl:l.length<=1000000) :
  Calls Tryz.prog 231 #[vecV 5 b bn s i f v x] w fun e w'=>∃ u,e= .returned u/\Own1 w' w.heap.size 21 u (l.map (.int .i32))/\Below w.heap.size w w':=by
 have HC:=Lib.hid (fun w2 (hb:Below w.heap.size w w2)=>clR_any (h.below hb) (by rw [List.length_map];omega) (by intro u hu;obtain ⟨z,_,rfl⟩:=List.mem_map.1 hu;rfl))
 clear h
 go_enter Tryz.func231,Tryz.ntmps231
 go_wp2_with fail
 refine (HC.out _ (bel1 _ _)).mono ?_
 rintro e w1 ⟨u,rfl,ho,hb1⟩
 have HB1:=Lib.hid ((bel1 w _).trans (hb1.mono (bel1 w _).size))
 have HO:=Lib.hid ho
 clear hb1 ho
 go_wp2
 go_ret
 exact ⟨_,rfl,HO.out.lower (by simp),HB1.out⟩
theorem bits_size:(Tryz.prog.info? 52).map (·.size)=some 2:=by kernel_rfl
theorem ret_bits2 {fn:Func}{p u:Tmp} (h:fn.results=#[.cell p 52,.tmp u]) (tmps:Array Value) (w:World) (G:Nat){e:TypeId}{a0 a1:Value}
  (hp:tmps.getD p undef= .pointer (some ⟨G,0,none⟩)) (hg:w.heap[G]?=some (.cells #[a0,a1] e)) :
  (results fn tmps).run Tryz.prog w= .ok (.tuple #[.agg #[a0,a1],tmps.getD u undef]) w:=by
 rw [results_cell_tmp h,hp]
 have:=run_loadVar_row (P:=Tryz.prog) w G e 52 _ (0,0) _ hg Tryz.underlying52 rfl bits_size
 simp [asAddr,Result.andThen,this]
theorem packed_no (k:Int) (hk:k≠1) (b:Value) (bn:Int) (s i f c x:Value) (w:World) :
  Calls Tryz.prog 181 #[vecV k b bn s i f c x] w fun e w'=>e= .returned (.tuple #[.agg #[vnil,.int .i64 0],.bool false])/\Below w.heap.size w w':=by
 have hk1:(k != 1)=true:=by simpa using hk
 go_enter Tryz.func181,Tryz.ntmps181
 go_wp2
 refine bodyPost_ret (v := .tuple #[.agg #[vnil,.int .i64 0],.bool false]) ?_ rfl ⟨rfl,bel2 _ _ _⟩
 exact ret_bits2 (fn:=Tryz.f181) (p:=2) (u:=3) rfl _ _ (w.heap.size+1) (by rfl) (by have h:=heap_alloc_new (w.alloc (.cells #[.int .i64 k,b,.int .i64 bn,s,i,f,c,x] 57)) (.cells #[.slice none 0 0,.int .i64 0] 52);simpa using h)
theorem natAbs_good {n:Int} (h:Good n):n.natAbs<=9007199254740992:=by obtain ⟨h1,h2⟩:=h;omega
theorem fi_zero:fi 0=0:=by decide
theorem sg_dec_natAbs (n:Int):sg (decide (n < 0)) n.natAbs=n:=by
 unfold sg
 by_cases h:n < 0
 ·simp [h];omega
 ·simp [h];omega
theorem nwhole_fi (n:Int) (h:Good n) (w:World):Calls Tryz.prog 174 #[.float .f64 (fi n)] w fun e w'=>e= .returned (.tuple #[.int .i64 n,.bool true])/\w=w':=by
 have:=nwhole_yes (decide (n < 0)) n.natAbs (natAbs_good h) w
 rw [sg_dec_natAbs,<- fi_W n (natAbs_good h)] at this
 exact this
theorem inf_div' (s:Bool):floatBits .quo .f64 4607182418800017408 (W s 0)=some (infw s):=by cases s <;> decide+kernel
theorem fo_refl' (s:Bool){Z:Nat} (hz:Rep Z):FloatKind.f64.format.order (W s Z) (W s Z)=some .eq:=by
 have:=order_W s s hz hz
 rw [cmp_eq] at this
 exact this
theorem bits_same' (s:Bool){Z:Nat} (hz:Rep Z) (w:World) :
  Calls Tryz.prog 186 #[.float .f64 (W s Z),.float .f64 (W s Z)] w fun e w'=>e= .returned (.bool true)/\w=w':=by
 have h1:=fo_refl' s hz
 have h2:=fo_eq s false hz rep_zero
 rw [W_zero,sg_zero] at h2
 by_cases h0:Z=0
 ·subst h0
  rw [sg_zero,decide_eq_true rfl] at h2
  have h2':FloatKind.f64.format.order (W s 0) 0=some .eq:=by simpa using h2
  have h3:=fo_infinf s
  have h4:=fun w=>run_float_arith (P:=Tryz.prog) w .quo 96 .f64 _ _ _ (inf_div' s)
  clear hz h2
  generalize W s 0=b at *
  go_enter Tryz.func186,Tryz.ntmps186
  go_wp2
  go_ret
  exact ⟨rfl,rfl⟩
 ·rw [decide_eq_false (by rw [sg_eq_zero];exact h0)] at h2
  have h2':=beq_eq_false_iff_ne.1 h2
  have h2n:(FloatKind.f64.format.order (W s Z) 0 != some .eq)=true:=by rw [bne,h2];rfl
  clear hz h0
  generalize W s Z=b at *
  go_enter Tryz.func186,Tryz.ntmps186
  go_wp2
  go_ret
  exact ⟨rfl,rfl⟩
theorem reads_at {w:World}{v:Value}{n:Nat}{F:Nat->Value} (h:Reads1 w v ((List.range n).map F)):∃ a c,v= .slice a n c/\∀ j,j < n->∃ b o,a=some ⟨b,o,none⟩/\w.cell? ⟨b,o+j,none⟩=some (F j):=by
 rcases h with ⟨a,c,rfl,h0⟩ | ⟨b,o,m,c,rfl,hn,hc⟩
 ·have hn:n=0:=by simpa using h0
  subst hn
  exact ⟨a,c,rfl,fun j hj=>by omega⟩
 ·have hm:m=n:=by simpa using hn
  subst hm
  refine ⟨_,c,rfl,fun j hj=>⟨b,o,rfl,?_⟩⟩
  rw [hc j (by simpa using hj)]
  simp
def Small8 (n:Nat) (l:Nat->Int) (u:Value) (W:World):Prop:=∃ s,u=vecV 2 vnil 0 s vnil vnil vnil vnil/\Reads1 W s ((List.range n).map fun j => .int .i8 (l j))
end Go.Proofs.YtbakjaliponbbaaGreatDoor
