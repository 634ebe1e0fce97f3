/- The walk of squeeze.Squeeze, whatever the least store is. The walk of Wholes at a Vec of eight-bit numbers. The walk of fold.wholes where every step goes in .. Conditions: as each theorem says. -/
import Derived.Test.YtakgmnafbjdccaaGreatDoorMg03
import Derived.Deep.RegionHeld3
import Derived.Deep.CutRange
import Derived.Laws.MakeOwn
import Derived.Deep.QuietTactic
import Derived.BigQuiet
import Derived.Test.YtakgmnafbjdccaaGreatDoorMg00
import Derived.Test.YtakgmnafbjdccaaGreatDoorMg01
set_option maxRecDepth 100000
set_option maxHeartbeats 2000000
namespace Go.Proofs.YtakgmnafbjdccaaGreatDoor
open Go Go.RowKit Go.Proofs Fl
theorem St.al {w W:World}{k:Int}{b:Value}{bn:Int}{s i f c x:Value} (h:St w W k b bn s i f c x) (o:Obj):St w (W.alloc o) k b bn s i f c x:=h.step (bel1 W o)
theorem St.dr {w W:World}{k:Int}{b:Value}{bn:Int}{s i f c x:Value} (h:St w W k b bn s i f c x):St w W.drew k b bn s i f c x:=h.step (Below.refl _ W).drew
theorem St.put {w W:World}{k:Int}{b:Value}{bn:Int}{s i f c x:Value} (h:St w W k b bn s i f c x){g j:Nat} (ha:w.heap.size+2<=g) (u:Value):St w (W.setCell ⟨g,j,none⟩ u) k b bn s i f c x :=
 ⟨h.box.set (by show g≠_;omega) u,by rw [Below.heap_setCell _ _ _ _ (by show _≠g;omega)];exact h.res,h.bel.setCell (by show _<=g;omega) u⟩
theorem St.sz {w W:World}{k:Int}{b:Value}{bn:Int}{s i f c x:Value} (h:St w W k b bn s i f c x):w.heap.size+2<=W.heap.size:=(boxed_of h.res).1.lt
theorem bcell2 {W w1:World} (hb:Below W.heap.size W w1):(∀ b o,b < W.heap.size->w1.cell? ⟨b,o,none⟩=W.cell? ⟨b,o,none⟩)/\(∀ b o,b < W.heap.size->w1.frozen? ⟨b,o,none⟩=W.frozen? ⟨b,o,none⟩) :=
 ⟨fun b o h=>hb.cell (p:=⟨b,o,none⟩) h,fun b o h=>hb.frozen (p:=⟨b,o,none⟩) h⟩
abbrev Sl:=Option Addr×Nat×Nat
abbrev vecW (k:Int) (b:Sl) (bn:Int) (s i f c x:Sl):Value:=vecV k (.slice b.1 b.2.1 b.2.2) bn (.slice s.1 s.2.1 s.2.2) (.slice i.1 i.2.1 i.2.2) (.slice f.1 f.2.1 f.2.2) (.slice c.1 c.2.1 c.2.2) (.slice x.1 x.2.1 x.2.2)
def IntoR (H:Nat->Prop) (w W:World) (R:Value->World->Prop) (e:Ending) (w':World):Prop :=
 ∃ (k:Int) (b:Sl) (bn:Int) (s i f c x:Sl),e= .returned (.tuple #[vecW k b bn s i f c x,.bool true])/\Keeps (Hole H w W) w' (R (vecW k b bn s i f c x))/\Below W.heap.size W w'
def SqMid (H:Nat->Prop) (w:World) (R:Value->World->Prop) (p:Value) (wx:World):Prop :=
 ∃ (G:Nat) (k:Int) (b:Sl) (bn:Int) (s i f c x:Sl),p= .pointer (some ⟨G,0,none⟩)/\wx.heap[G]?=some (.cells #[.int .i64 k,.slice b.1 b.2.1 b.2.2,.int .i64 bn,.slice s.1 s.2.1 s.2.2,.slice i.1 i.2.1 i.2.2,.slice f.1 f.2.1 f.2.2,.slice c.1 c.2.1 c.2.2,.slice x.1 x.2.1 x.2.2] 38)/\w.heap.size+2<=G /\
  wx.heap[w.heap.size+1]?=some (.cells zcells 38)/\Keeps (fun b=>H b\/(w.heap.size<=b/\b < w.heap.size+2)) wx (R (vecW k b bn s i f c x))/\Below w.heap.size w wx
def VecR (H:Nat->Prop) (w:World) (R:Value->World->Prop) (e:Ending) (w':World):Prop :=
 ∃ (k:Int) (b:Sl) (bn:Int) (s i f c x:Sl),e= .returned (vecW k b bn s i f c x)/\Keeps H w' (R (vecW k b bn s i f c x))/\Below w.heap.size w w'
theorem sqMid_of {H:Nat->Prop}{w W wx:World}{R:Value->World->Prop}{G:Nat}{k:Int}{b:Sl}{bn:Int}{s i f c x:Sl} (hW:w.heap.size+2<=W.heap.size) (hG:w.heap.size+2<=G)
  (h1:wx.heap[G]?=some (.cells #[.int .i64 k,.slice b.1 b.2.1 b.2.2,.int .i64 bn,.slice s.1 s.2.1 s.2.2,.slice i.1 i.2.1 i.2.2,.slice f.1 f.2.1 f.2.2,.slice c.1 c.2.1 c.2.2,.slice x.1 x.2.1 x.2.2] 38)) (h2:wx.heap[w.heap.size+1]?=some (.cells zcells 38))
  (h3:Keeps (Hole H w W) wx (R (vecW k b bn s i f c x))) (h4:Below w.heap.size w wx):SqMid H w R (.pointer (some ⟨G,0,none⟩)) wx :=
 ⟨G,k,b,bn,s,i,f,c,x,rfl,h1,hG,h2,h3.sub (fun j _ e=>by rcases e with e | ⟨e1,e2⟩;exact .inl e;exact .inr ⟨e1,by omega⟩),h4⟩
theorem sq_s {w W:World}{k:Int}{b:Value}{bn:Int}{s i f c x:Value} (h:St w W k b bn s i f c x):(W.cell? ⟨w.heap.size,0,none⟩=some (.int .i64 k)/\W.cell? ⟨w.heap.size,1,none⟩=some b/\W.cell? ⟨w.heap.size,2,none⟩=some (.int .i64 bn)/\W.cell? ⟨w.heap.size,3,none⟩=some s/\W.cell? ⟨w.heap.size,4,none⟩=some i/\W.cell? ⟨w.heap.size,5,none⟩=some f/\W.cell? ⟨w.heap.size,6,none⟩=some c/\W.cell? ⟨w.heap.size,7,none⟩=some x)/\St w W k b bn s i f c x:=⟨h.box,h⟩
theorem sqz1 {w0:World}{a:Obj}{n:Nat} (h:((w0.alloc a).drew).heap.size<=n):w0.heap.size < n:=by simp [World.drew] at h;omega
theorem St.put8 {w W:World}{k:Int}{b:Value}{bn:Int}{s i f c x:Value} (h:St w W k b bn s i f c x){G:Nat} (hG:w.heap.size+2<=G) (a0 a1 a2 a3 a4 a5 a6 a7:Value):St w (set8 W G a0 a1 a2 a3 a4 a5 a6 a7) k b bn s i f c x :=
 (((((((h.put hG _).put hG _).put hG _).put hG _).put hG _).put hG _).put hG _).put hG _
theorem sqMid_set {H:Nat->Prop}{w W w2:World}{R:Value->World->Prop}{G:Nat}{k:Int}{b:Value}{bn:Int}{s i f c x:Value}{k2:Int}{b2:Sl}{bn2:Int}{s2 i2 f2 c2 x2:Sl} (hW:w.heap.size+2<=W.heap.size) (hG:w.heap.size+2<=G) (hGW:G < W.heap.size)
  (h1:w2.heap[G]?=some (.cells zcells 38)) (hs:St w w2 k b bn s i f c x) (hk:Keeps (Hole H w W) w2 (R (vecW k2 b2 bn2 s2 i2 f2 c2 x2))) :
  SqMid H w R (.pointer (some ⟨G,0,none⟩)) (set8 w2 G (.int .i64 k2) (.slice b2.1 b2.2.1 b2.2.2) (.int .i64 bn2) (.slice s2.1 s2.2.1 s2.2.2) (.slice i2.1 i2.2.1 i2.2.2) (.slice f2.1 f2.2.1 f2.2.2) (.slice c2.1 c2.2.1 c2.2.2) (.slice x2.1 x2.2.1 x2.2.2)) :=
 sqMid_of hW hG (set8_block h1 _ _ _ _ _ _ _ _) (hs.put8 hG _ _ _ _ _ _ _ _).res (hk.set8 (.inr ⟨by omega,hGW⟩) _ _ _ _ _ _ _ _) (hs.put8 hG _ _ _ _ _ _ _ _).bel
theorem sqMid_new {H:Nat->Prop}{w W w2:World}{R:Value->World->Prop}{k:Int}{b:Value}{bn:Int}{s i f c x:Value}{k2:Int}{b2:Sl}{bn2:Int}{s2 i2 f2 c2 x2:Sl} (hW:w.heap.size+2<=W.heap.size)
  (hs:St w w2 k b bn s i f c x) (hk:Keeps (Hole H w W) w2 (R (vecW k2 b2 bn2 s2 i2 f2 c2 x2))) :
  SqMid H w R (.pointer (some ⟨w2.heap.size,0,none⟩)) (w2.alloc (.cells #[.int .i64 k2,.slice b2.1 b2.2.1 b2.2.2,.int .i64 bn2,.slice s2.1 s2.2.1 s2.2.2,.slice i2.1 i2.2.1 i2.2.2,.slice f2.1 f2.2.1 f2.2.2,.slice c2.1 c2.2.1 c2.2.2,.slice x2.1 x2.2.1 x2.2.2] 38)) :=
 sqMid_of hW hs.sz (heap_alloc_new w2 _) (hs.al _).res (hk.step (bel1 w2 _)) (hs.al _).bel
theorem sqz_blk {w1 w2:World}{o:Obj} (hb:Below (w1.alloc o).heap.size (w1.alloc o) w2):w2.heap[w1.heap.size]?=some o:=block_up hb
theorem sqz_old {w0 w1 w2:World}{o:Obj} (hb2:Below w1.heap.size w1 w2) (hb1:Below ((w0.alloc o).drew).heap.size ((w0.alloc o).drew) w1):w2.heap[w0.heap.size]?=some o:=by
 have h1:w1.heap[w0.heap.size]?=some o:=by
  rw [hb1.block _ (by simp [World.drew])]
  exact heap_alloc_new w0 o
 rw [hb2.block _ (lt_of_block h1)]
 exact h1
theorem sqz_le {n:Nat}{w1:World} (h:n<=w1.heap.size) (o:Obj):n<=(w1.alloc o).heap.size:=by simp;omega
theorem sqz_lt (w1:World) (o:Obj):w1.heap.size < (w1.alloc o).heap.size:=by simp
theorem squeeze_any (H:Nat->Prop) (R:Value->World->Prop) (kd:Int) (k:Int) (b:Value) (bn:Int) (s i f c x:Value) (w:World)
  (hle:∀ W,Below w.heap.size w W->Calls Tryz.prog 184 #[vecV k b bn s i f c x] W fun e w'=>e= .returned (.int .i64 kd)/\Below W.heap.size W w')
  (hin:∀ W,Below w.heap.size w W->Calls Tryz.prog 183 #[vecV k b bn s i f c x,.int .i64 kd] W (IntoR H w W R)) :
  Calls Tryz.prog 113 #[vecV k b bn s i f c x] w (VecR H w R):=by
 have HL:=Lib.hid hle
 have HI:=Lib.hid hin
 have HS0:=Lib.hid (St.new w k b bn s i f c x)
 clear hle hin
 go_enter Tryz.func113,Tryz.ntmps113
 go_wp2_with fail
 obtain ⟨w0,hw0⟩:∃ w0,w0=(w.alloc (.cells #[.int .i64 k,b,.int .i64 bn,s,i,f,c,x] 38)).alloc (.cells zcells 38):=⟨_,rfl⟩
 rw [<- hw0] at HS0 ⊢
 clear hw0
 have hz0:=HS0.out.sz
 go_cut [3,4] from 5 (fun p ok wx=>ok= .bool true/\SqMid H w R p wx)
 case first =>
  have hs0:=HS0.out.dr
  have hs00:=HS0.out
  go_region_held3 (fun W=>(W.cell? ⟨w.heap.size,0,none⟩=some (.int .i64 k)/\W.cell? ⟨w.heap.size,1,none⟩=some b/\W.cell? ⟨w.heap.size,2,none⟩=some (.int .i64 bn)/\W.cell? ⟨w.heap.size,3,none⟩=some s/\W.cell? ⟨w.heap.size,4,none⟩=some i/\W.cell? ⟨w.heap.size,5,none⟩=some f/\W.cell? ⟨w.heap.size,6,none⟩=some c/\W.cell? ⟨w.heap.size,7,none⟩=some x)/\St w W k b bn s i f c x)
   (first | (with_reducible assumption) | (with_reducible (refine sq_s ?_);repeat (first | (with_reducible assumption) | (with_reducible refine St.dr ?_) | (with_reducible refine St.put ?_ (by first | assumption | omega | (simp;omega)) _) | (with_reducible refine St.al ?_ _))))
   (first
    | (go_at_call 184;(with_reducible refine (HL.out _ ?_).mono ?_);exact St.bel (k:=k) (b:=b) (bn:=bn) (s:=s) (i:=i) (f:=f) (c:=c) (x:=x) (by repeat (first | (with_reducible assumption) | (with_reducible refine St.dr ?_) | (with_reducible refine St.al ?_ _)));rintro e w1 ⟨rfl,hb1⟩;obtain ⟨hc1,hf1⟩:=bcell2 hb1;have hz1:=hb1.size;(first | (have hy1:w0.heap.size < w1.heap.size:=sqz1 hz1) | skip);have hst1:St w w1 k b bn s i f c x:=St.step (by repeat (first | (with_reducible assumption) | (with_reducible refine St.dr ?_) | (with_reducible refine St.al ?_ _))) hb1;have hg1:w.heap.size+2<=w1.heap.size:=hst1.sz;have HB1:=Lib.hid hb1;clear hb1)
    | (go_at_call 183;(with_reducible refine (HI.out _ ?_).mono ?_);exact St.bel (k:=k) (b:=b) (bn:=bn) (s:=s) (i:=i) (f:=f) (c:=c) (x:=x) (by repeat (first | (with_reducible assumption) | (with_reducible refine St.dr ?_) | (with_reducible refine St.al ?_ _)));rintro e w2 ⟨k2,b2,bn2,s2,i2,f2,c2,x2,rfl,hk2,hb2⟩;obtain ⟨hc2,hf2⟩:=bcell2 hb2;have hz2:=hb2.size;have hst2:St w w2 k b bn s i f c x:=St.step (by repeat (first | (with_reducible assumption) | (with_reducible refine St.dr ?_) | (with_reducible refine St.al ?_ _))) hb2;have HB2:=Lib.hid hb2;have HK2:=Lib.hid hk2;clear hb2 hk2))
  all_goals
   go_wp2
   go_meet
   refine ⟨rfl,?_⟩
   first
    | (with_reducible exact sqMid_new (W:=w1) hg1 hst2 HK2.out)
    | (with_reducible exact sqMid_set (W:=w1) hg1 hz0 hy1 (sqz_old HB2.out HB1.out) hst2 HK2.out)
    | (with_reducible exact sqMid_set (W:=w1.alloc _) (sqz_le hg1 _) hg1 (sqz_lt _ _) (sqz_blk HB2.out) hst2 HK2.out)
 case rest =>
  obtain ⟨rfl,G,k2,b2,bn2,s2,i2,f2,c2,x2,rfl,hG,hGs,hR,hK,hB⟩:=hcut
  have HG:=Lib.hid hG
  have HR:=Lib.hid hR
  have HK:=Lib.hid hK
  have HB:=Lib.hid hB
  clear hG hR hK hB
  have HGS:=Lib.hid hGs
  clear hGs
  obtain ⟨⟨h0,h1,h2,h3,h4,h5,h6,h7⟩,hz⟩:=boxed_of HR.out
  obtain ⟨⟨g0,g1,g2,g3,g4,g5,g6,g7⟩,gz⟩:=boxed_of HG.out
  clear gz
  go_wp2
  refine bodyPost_ret (ret_vec rfl _ _ _ rfl (set8_block HR.out _ _ _ _ _ _ _ _)) rfl ?_
  exact ⟨k2,b2,bn2,s2,i2,f2,c2,x2,rfl,(HK.out.set8 (.inr ⟨by omega,by omega⟩) _ _ _ _ _ _ _ _).sub (fun _ _ e => .inl e),below_set8 HB.out (Nat.le_succ _) _ _ _ _ _ _ _ _⟩
theorem info_i64:(Tryz.prog.info? 2).map (fun i=>(i.zero,i.size,i.bytes))=some (some (.int .i64 0),1,8):=by kernel_rfl
theorem wholes_small (b:Value) (bn:Int) (s i f c x:Value) (n:Nat) (l:Nat->Int) (w:World) (hn:n<=1000000)
  (hlen:∀ w',Below w.heap.size w w'->Calls Tryz.prog 74 #[vecV 2 b bn s i f c x] w' fun e w2=>e= .returned (.int .i64 n)/\Below w'.heap.size w' w2)
  (hwh:∀ w',Below w.heap.size w w'->∀ j,j < n->Calls Tryz.prog 142 #[vecV 2 b bn s i f c x,.int .i64 (j:Nat)] w' fun e w2=>e= .returned (.tuple #[.int .i64 (l j),.bool true])/\Below w'.heap.size w' w2) :
  Calls Tryz.prog 166 #[vecV 2 b bn s i f c x] w fun e w'=>∃ g,e= .returned (.tuple #[.slice (some ⟨g,0,none⟩) n n,.bool true])/\Own1 w' w.heap.size 2 (.slice (some ⟨g,0,none⟩) n n) ((List.range n).map fun j => .int .i64 (l j))/\Below w.heap.size w w':=by
 have HLN:=Lib.hid hlen
 have HW:=Lib.hid hwh
 have hmk:=run_make_row' (P:=Tryz.prog) 33 2 (.int .i64 0) 8 Tryz.underlying33 info_i64 rfl .i64 .i64 n (by omega) (by omega)
 clear hlen hwh
 go_enter Tryz.func166,Tryz.ntmps166
 go_wp2_with fail
 refine (HLN.out _ (bel1 w _)).mono ?_
 rintro e w1 ⟨rfl,hb1⟩
 have HB1:=Lib.hid (bel_both (bel1 w _) hb1)
 have HX1:=Lib.hid ((boxed_new w 38 2 b bn s i f c x).below hb1)
 clear hb1
 have HGN:Hid (w1.heap.size≠w.heap.size):=by have h1:=HX1.out.lt;show _≠_;omega
 have HF0:=Lib.hid (Fill.made w1 w.heap.size HB1.out.size 2 (fun j => .int .i64 (l j)) (.int .i64 0) n (by unfold maxLen;omega))
 have HBM:=Lib.hid (HB1.out.alloc HB1.out.size (.cells (madeCells #[.int .i64 0] n) 2))
 have HXM:=Lib.hid (HX1.out.below (bel1 w1 (.cells (madeCells #[.int .i64 0] n) 2)))
 go_wp2_with fail
 go_loopw [21] (fun j wr=>∃ m:Nat,m<=n/\j= .int .i64 m/\Fill wr w.heap.size w1.heap.size 2 (fun j => .int .i64 (l j)) (.int .i64 0) n m/\Below w.heap.size w wr/\Boxed wr w.heap.size 2 b bn s i f c x) (fun j _=>n - (intOf j).toNat)
 case atStart=>exact ⟨0,Nat.zero_le _,rfl,HF0.out,HBM.out,HXM.out⟩
 case round =>
  obtain ⟨m,hm,rfl,hf,hbl,hx⟩:=hrel
  have HF:=Lib.hid hf
  have HBL:=Lib.hid hbl
  have HX:=Lib.hid hx
  clear hf hbl
  by_cases hlt:m < n
  ·obtain ⟨h0,h1,h2,h3,h4,h5,h6,h7⟩:=hx
   go_wp2_with fail
   refine (HW.out _ HBL.out m hlt).mono ?_
   rintro e w3 ⟨rfl,hb3⟩
   have HF3:=Lib.hid (HF.out.below hb3)
   have HP3:=Lib.hid (HF3.out.put hlt)
   have HB3:=Lib.hid (HF3.out.bel (bel_both HBL.out hb3) m (.int .i64 (l m)))
   have HX3:=Lib.hid ((HX.out.below hb3).set (p:=⟨w1.heap.size,m,none⟩) HGN.out (.int .i64 (l m)))
   have hc3:=HF3.out.cell hlt
   have hz3:=HF3.out.frozen m
   clear hb3 h0 h1 h2 h3 h4 h5 h6 h7
   generalize l m=z at *
   go_wp2
   go_roundw
   case rel=>exact ⟨m+1,by omega,by go_num,HP3.out,HB3.out,HX3.out⟩
   case measure=>simp [intOf];omega
  ·obtain rfl:m=n:=by omega
   clear hx
   go_wp2
   go_ret2
   exact ⟨_,rfl,HF.out.own,HBL.out⟩
theorem ints_zero (a:Option Addr) (c:Nat) (w:World) :
  Calls Tryz.prog 112 #[.slice a 0 c] w fun e w'=>∃ u,e= .returned (.tuple #[vecV 3 vnil 0 vnil u vnil vnil vnil,.bool true])/\Own1 w' w.heap.size 2 u (([]:List Int).map (.int .i64))/\Below w.heap.size w w':=by
 have HC:=Lib.hid (fun w2 (_:Below w.heap.size w w2)=>cl64_any (w:=w2) (v := .slice a 0 c) (xs:=([]:List Int).map (.int .i64)) (.inl ⟨a,c,rfl,rfl⟩) (by simp) (by simp))
 go_enter Tryz.func112,Tryz.ntmps112
 go_wp2
 refine wp_loop_rounds 1 ?_
 rw [rounds_succ]
 go_wp2_with fail
 refine (HC.out _ (bel1 _ _)).mono ?_
 rintro e w1 ⟨u,rfl,ho,hb1⟩
 have HB1:=Lib.hid ((bel1 w _).trans (hb1.mono (bel1 w _).size))
 obtain ⟨h0,h1,h2,h3,h4,h5,h6,h7⟩:=(boxed_new w 38 0 vnil 0 vnil vnil vnil vnil vnil).below hb1
 have HK:=Lib.hid (block_up hb1)
 have hz:∀ j,w1.frozen? ⟨w.heap.size,j,none⟩=false:=fun j=>by rw [hb1.frozen (by simp)];exact frozen_new _ _ _ _
 have HNE:Hid (u.ownBlock≠some w.heap.size):=fun e=>by have:=(World.ownsRow.lt ho _ e).1;simp at this;omega
 have HO:=Lib.hid ho
 obtain ⟨a,n,c,hu⟩:∃ a n c,u= .slice a n c:=by obtain ⟨a,c,e⟩:=ho.reads.len;exact ⟨a,_,c,e⟩
 subst hu
 clear hb1 ho
 go_wp2
 refine bodyPost_ret (v := .tuple #[vecV 3 vnil 0 vnil (.slice a n c) vnil vnil vnil,.bool true]) ?_ rfl ⟨.slice a n c,rfl,own_set8 (HO.out.lower (by simp)) HNE.out _ _ _ _ _ _ _ _,below_set8 HB1.out (Nat.le_refl _) _ _ _ _ _ _ _ _⟩
 exact ret_vec2 (fn:=Tryz.f112) (p:=2) (u:=3) rfl _ _ w.heap.size (by rfl) (set8_block HK.out _ _ _ _ _ _ _ _)
theorem ints_any {w:World}{v:Value}{l:List Int} (h:Reads1 w v (l.map (.int .i64))) (hl:l.length<=1000000) (hg:∀ x∈l,Good x) :
  Calls Tryz.prog 112 #[v] w fun e w'=>∃ u,e= .returned (.tuple #[vecV 3 vnil 0 vnil u vnil vnil vnil,.bool true])/\Own1 w' w.heap.size 2 u (l.map (.int .i64))/\Below w.heap.size w w':=by
 rcases h.at with ⟨a,c,rfl,h0⟩ | ⟨b,o,c,rfl,hc⟩
 ·have:=List.map_eq_nil_iff.1 h0
  subst this
  exact ints_zero a c w
 ·rw [List.length_map]
  exact ints_walk b o _ c l rfl hl w (fun i hi=>by have:=hc i (by simpa using hi);simpa using this) hg
theorem make_cap (n:Nat) (hn:n<=1000000) (w:World):(Instr.makeSlice 33 (.int .i64 0) (.int .i64 (n:Int))).run Tryz.prog w= .ok (.slice (some ⟨w.heap.size,0,none⟩) 0 n) (w.alloc (.cells (madeCells #[.int .i64 0] n) 2)):=by
 obtain ⟨i,hi,hz,hs,hb⟩:=info_parts info_i64
 have hr:=run_make (P:=Tryz.prog) w 33 2 i (.int .i64 0) Tryz.underlying33 hi hz .i64 .i64 0 (n:Int) (by omega) (by omega) (by rw [hb];omega) (by omega)
 simp only [Int.toNat_natCast,hs,Nat.mul_one] at hr
 exact hr
def Vec2R (H:Nat->Prop) (w:World) (R:Value->World->Prop) (e:Ending) (w':World):Prop :=
 ∃ (k:Int) (b:Sl) (bn:Int) (s i f c x:Sl),e= .returned (.tuple #[vecW k b bn s i f c x,.bool true])/\Keeps H w' (R (vecW k b bn s i f c x))/\Below w.heap.size w w'
theorem idx_lt {outer n inner o k j:Nat} (ho:o < outer) (hk:k < inner) (hj:j < n):o*n*inner+k+j*inner < outer*n*inner:=by
 have h1:k+j*inner < n*inner:=by
  have:(j+1)*inner<=n*inner:=Nat.mul_le_mul_right _ hj
  rw [Nat.add_mul] at this
  omega
 have h2:(o+1)*(n*inner)<=outer*(n*inner):=Nat.mul_le_mul_right _ ho
 rw [Nat.add_mul] at h2
 rw [Nat.mul_assoc,Nat.mul_assoc]
 omega
theorem bel_both' {w a b:World} (h:Below w.heap.size w a) (k:Below (w.heap.size+1) a b):Below w.heap.size w b:=h.trans (k.mono (Nat.le_succ _))
def knownB (f:Int):Bool:=decide ((1<=f/\f<=8)\/(11<=f/\f<=16)\/(21<=f/\f<=24))
theorem known_any (f:Int) (w:World):Calls Tryz.prog 50 #[.int .i64 f] w fun e w'=>e= .returned (.bool (knownB f))/\w=w':=by
 go_enter Tryz.func50,Tryz.ntmps50
 go_wp2
 all_goals go_ret
 all_goals refine ⟨?_,rfl⟩
 all_goals unfold knownB
 all_goals refine congrArg (fun b=>Ending.returned (.bool b)) ?_
 all_goals rw [Bool.eq_iff_iff]
 all_goals first | (simp;done) | (simp;omega)
theorem text_any (b:Value) (bn:Int) (s i f x:Value){w:World}{v:Value}{l:List Int} (h:Reads1 w v (l.map (.int .i32))) (hl:l.length<=1000000) :
  Calls Tryz.prog 146 #[vecV 5 b bn s i f v x] w fun e w'=>∃ u,e= .returned u/\Own1 w' w.heap.size 21 u (l.map (.int .i32))/\Below w.heap.size w w':=by
 have HC:=Lib.hid (fun w2 (hb:Below w.heap.size w w2)=>clR_any (h.below hb) (by rw [List.length_map];omega) (by intro u hu;obtain ⟨z,_,rfl⟩:=List.mem_map.1 hu;rfl))
 clear h
 go_enter Tryz.func146,Tryz.ntmps146
 go_wp2_with fail
 refine (HC.out _ (bel1 _ _)).mono ?_
 rintro e w1 ⟨u,rfl,ho,hb1⟩
 have HB1:=Lib.hid ((bel1 w _).trans (hb1.mono (bel1 w _).size))
 have HO:=Lib.hid ho
 clear hb1 ho
 go_wp2
 go_ret
 exact ⟨_,rfl,HO.out.lower (by simp),HB1.out⟩
theorem bits_size:(Tryz.prog.info? 31).map (·.size)=some 2:=by kernel_rfl
theorem ret_bits2 {fn:Func}{p u:Tmp} (h:fn.results=#[.cell p 31,.tmp u]) (tmps:Array Value) (w:World) (G:Nat){e:TypeId}{a0 a1:Value}
  (hp:tmps.getD p undef= .pointer (some ⟨G,0,none⟩)) (hg:w.heap[G]?=some (.cells #[a0,a1] e)) :
  (results fn tmps).run Tryz.prog w= .ok (.tuple #[.agg #[a0,a1],tmps.getD u undef]) w:=by
 rw [results_cell_tmp h,hp]
 have:=run_loadVar_row (P:=Tryz.prog) w G e 31 _ (0,0) _ hg Tryz.underlying31 rfl bits_size
 simp [asAddr,Result.andThen,this]
theorem packed_no (k:Int) (hk:k≠1) (b:Value) (bn:Int) (s i f c x:Value) (w:World) :
  Calls Tryz.prog 107 #[vecV k b bn s i f c x] w fun e w'=>e= .returned (.tuple #[.agg #[vnil,.int .i64 0],.bool false])/\Below w.heap.size w w':=by
 have hk1:(k != 1)=true:=by simpa using hk
 go_enter Tryz.func107,Tryz.ntmps107
 go_wp2
 refine bodyPost_ret (v := .tuple #[.agg #[vnil,.int .i64 0],.bool false]) ?_ rfl ⟨rfl,bel2 _ _ _⟩
 exact ret_bits2 (fn:=Tryz.f107) (p:=2) (u:=3) rfl _ _ (w.heap.size+1) (by rfl) (by have h:=heap_alloc_new (w.alloc (.cells #[.int .i64 k,b,.int .i64 bn,s,i,f,c,x] 38)) (.cells #[.slice none 0 0,.int .i64 0] 31);simpa using h)
def VecOk (H:Nat->Prop) (w:World) (R:Value->World->Prop) (e:Ending) (w':World):Prop :=
 ∃ (k:Int) (b:Sl) (bn:Int) (s i f c x:Sl),e= .returned (.tuple #[vecW k b bn s i f c x,.int .i64 0])/\Keeps H w' (R (vecW k b bn s i f c x))/\Below w.heap.size w w'
theorem natAbs_good {n:Int} (h:Good n):n.natAbs<=9007199254740992:=by obtain ⟨h1,h2⟩:=h;omega
theorem fi_zero:fi 0=0:=by decide
theorem sg_dec_natAbs (n:Int):sg (decide (n < 0)) n.natAbs=n:=by
 unfold sg
 by_cases h:n < 0
 ·simp [h];omega
 ·simp [h];omega
theorem nwhole_fi (n:Int) (h:Good n) (w:World):Calls Tryz.prog 226 #[.float .f64 (fi n)] w fun e w'=>e= .returned (.tuple #[.int .i64 n,.bool true])/\w=w':=by
 have:=nwhole_yes (decide (n < 0)) n.natAbs (natAbs_good h) w
 rw [sg_dec_natAbs,<- fi_W n (natAbs_good h)] at this
 exact this
theorem inf_div' (s:Bool):floatBits .quo .f64 4607182418800017408 (W s 0)=some (infw s):=by cases s <;> decide+kernel
theorem fo_refl' (s:Bool){Z:Nat} (hz:Rep Z):FloatKind.f64.format.order (W s Z) (W s Z)=some .eq:=by
 have:=order_W s s hz hz
 rw [cmp_eq] at this
 exact this
theorem bits_same' (s:Bool){Z:Nat} (hz:Rep Z) (w:World) :
  Calls Tryz.prog 190 #[.float .f64 (W s Z),.float .f64 (W s Z)] w fun e w'=>e= .returned (.bool true)/\w=w':=by
 have h1:=fo_refl' s hz
 have h2:=fo_eq s false hz rep_zero
 rw [W_zero,sg_zero] at h2
 by_cases h0:Z=0
 ·subst h0
  rw [sg_zero,decide_eq_true rfl] at h2
  have h2':FloatKind.f64.format.order (W s 0) 0=some .eq:=by simpa using h2
  have h3:=fo_infinf s
  have h4:=fun w=>run_float_arith (P:=Tryz.prog) w .quo 51 .f64 _ _ _ (inf_div' s)
  clear hz h2
  generalize W s 0=b at *
  go_enter Tryz.func190,Tryz.ntmps190
  go_wp2
  go_ret
  exact ⟨rfl,rfl⟩
 ·rw [decide_eq_false (by rw [sg_eq_zero];exact h0)] at h2
  have h2':=beq_eq_false_iff_ne.1 h2
  have h2n:(FloatKind.f64.format.order (W s Z) 0 != some .eq)=true:=by rw [bne,h2];rfl
  clear hz h0
  generalize W s Z=b at *
  go_enter Tryz.func190,Tryz.ntmps190
  go_wp2
  go_ret
  exact ⟨rfl,rfl⟩
theorem reads_at {w:World}{v:Value}{n:Nat}{F:Nat->Value} (h:Reads1 w v ((List.range n).map F)):∃ a c,v= .slice a n c/\∀ j,j < n->∃ b o,a=some ⟨b,o,none⟩/\w.cell? ⟨b,o+j,none⟩=some (F j):=by
 rcases h with ⟨a,c,rfl,h0⟩ | ⟨b,o,m,c,rfl,hn,hc⟩
 ·have hn:n=0:=by simpa using h0
  subst hn
  exact ⟨a,c,rfl,fun j hj=>by omega⟩
 ·have hm:m=n:=by simpa using hn
  subst hm
  refine ⟨_,c,rfl,fun j hj=>⟨b,o,rfl,?_⟩⟩
  rw [hc j (by simpa using hj)]
  simp
def Small8 (n:Nat) (l:Nat->Int) (u:Value) (W:World):Prop:=∃ s,u=vecV 2 vnil 0 s vnil vnil vnil vnil/\Reads1 W s ((List.range n).map fun j => .int .i8 (l j))
theorem fi_inj {a b:Int} (ha:Good a) (hb:Good b) (h:fi a=fi b):a=b:=by
 have h1:=order_fi a b (natAbs_good ha) (natAbs_good hb)
 have h2:=order_fi b b (natAbs_good hb) (natAbs_good hb)
 rw [h] at h1
 rw [h1,cmp_eq] at h2
 rcases Int.lt_trichotomy a b with h3 | h3 | h3
 ·rw [cmp_lt h3] at h2;cases h2
 ·exact h3
 ·rw [cmp_gt h3] at h2;cases h2
theorem tf_fi {n:Int} (h:Good n):TF (fi n):=by
 refine ⟨decide (n < 0),n.natAbs*2^K,rep_fi n (natAbs_good h),fi_W n (natAbs_good h),fun e=>?_⟩
 have:n.natAbs=0:=by
  rcases Nat.mul_eq_zero.1 e with e | e
  ·exact e
  ·exact absurd e (Nat.ne_of_gt (Nat.two_pow_pos K))
 have:n=0:=by omega
 rw [this];rfl
open Classical in
noncomputable def wholeP (b:Nat):Option Int:=if h:∃ n,Good n/\b=fi n then some h.choose else none
theorem wholeP_fi {n:Int} (h:Good n):wholeP (fi n)=some n:=by
 have he:∃ m,Good m/\fi n=fi m:=⟨n,h,rfl⟩
 unfold wholeP
 rw [dif_pos he]
 exact congrArg some (fi_inj he.choose_spec.1 h he.choose_spec.2.symm)
theorem wholeP_some {b:Nat}{n:Int} (h:wholeP b=some n):Good n/\b=fi n:=by
 unfold wholeP at h
 split at h
 ·rename_i he
  injection h with h
  subst h
  exact he.choose_spec
 ·cases h
theorem whole_cases {b:Nat} (h:TF b):(∃ n,Good n/\b=fi n/\wholeP b=some n)\/(wholeP b=none/\∃ s Z,Rep Z/\b=W s Z/\¬ IsWhole Z):=by
 by_cases he:∃ n,Good n/\b=fi n
 ·obtain ⟨n,h1,rfl⟩:=he
  exact .inl ⟨n,h1,rfl,wholeP_fi h1⟩
 ·refine .inr ⟨by unfold wholeP;rw [dif_neg he],?_⟩
  obtain ⟨s,Z,hz,rfl,h0⟩:=h
  refine ⟨s,Z,hz,rfl,fun ⟨m,hm,e⟩=>he ⟨sg s m,?_,?_⟩⟩
  ·have:=natAbs_sg s m
   exact ⟨by omega,by omega⟩
  ·have hg:Good (sg s m):=by have:=natAbs_sg s m;exact ⟨by omega,by omega⟩
   rw [fi_W _ (natAbs_good hg),natAbs_sg,e]
   by_cases hm0:m=0
   ·subst hm0
    rw [Nat.zero_mul] at e ⊢
    rw [h0 e,sg_zero]
    rfl
   ·congr 1
    rw [Bool.eq_iff_iff,decide_eq_true_eq,sg_neg_iff]
    exact ⟨fun h=>⟨h,hm0⟩,fun h=>h.1⟩
theorem rwhole_yes' (s:Bool) (m:Nat) (hm:m<=9007199254740992) (w:World) :
  Calls Tryz.prog 279 #[.float .f64 (W s (m*2^K))] w fun e w'=>e= .returned (.bool true)/\w=w':=by
 have hz:Rep (m*2^K):=rep_int K hm (by unfold K;omega)
 obtain ⟨h1,h2,h3,h4⟩:=whole_facts s hz (Nat.mul_le_mul_right _ hm)
 rw [Nat.mul_div_cancel _ K_pos] at h3 h4
 rw [decide_eq_true rfl] at h4
 generalize W s (m*2^K)=b at *
 have h1':=h1
 have h2':=h2
 simp only [Bool.or_eq_true,beq_iff_eq] at h1' h2'
 clear hz hm
 go_enter Tryz.func279,Tryz.ntmps279
 go_wp2
 go_ret
 exact ⟨rfl,rfl⟩
theorem rwhole_no' (s:Bool){Z:Nat} (hz:Rep Z) (h:¬ IsWhole Z) (w:World) :
  Calls Tryz.prog 279 #[.float .f64 (W s Z)] w fun e w'=>e= .returned (.bool false)/\w=w':=by
 by_cases hle:Z<=9007199254740992*2^K
 ·obtain ⟨h1,h2,h3,h4⟩:=whole_facts s hz hle
  rw [decide_eq_false (fun e=>h ⟨Z / 2^K,div_le_of hle,e.symm⟩)] at h4
  generalize W s Z=b at *
  generalize sg s (Z / 2^K)=n at *
  have h1':=h1
  have h2':=h2
  simp only [Bool.or_eq_true,beq_iff_eq] at h1' h2'
  have h4':=beq_eq_false_iff_ne.1 h4
  clear hz h hle
  go_enter Tryz.func279,Tryz.ntmps279
  go_wp2
  go_ret
  exact ⟨rfl,rfl⟩
 ·obtain ⟨h1,h2⟩:=big_facts s hz hle
  cases s
  ·obtain ⟨h2,h3⟩:=h2 rfl
   clear h1 hle h hz
   go_enter Tryz.func279,Tryz.ntmps279
   go_wp2
   go_ret
   exact ⟨rfl,rfl⟩
  ·have h1:=h1 rfl
   clear h2 hle h hz
   go_enter Tryz.func279,Tryz.ntmps279
   go_wp2
   go_ret
   exact ⟨rfl,rfl⟩
theorem rwhole_fi (n:Int) (h:Good n) (w:World):Calls Tryz.prog 279 #[.float .f64 (fi n)] w fun e w'=>e= .returned (.bool true)/\w=w':=by
 have:=rwhole_yes' (decide (n < 0)) n.natAbs (natAbs_good h) w
 rw [<- fi_W n (natAbs_good h)] at this
 exact this
theorem conv_fi (n:Int) (h:Good n) (w:World):(convert 51 2 (.float .f64 (fi n))).run Tryz.prog w= .ok (.int .i64 n) w:=by
 have h1:=(whole_facts (decide (n < 0)) (rep_fi n (natAbs_good h)) (Nat.mul_le_mul_right _ (natAbs_good h))).conv w
 rw [Nat.mul_div_cancel _ K_pos,sg_dec_natAbs,<- fi_W n (natAbs_good h)] at h1
 exact h1
def restZ (a b:Int):Int:=if a=0 then b else if b.tmod a≠0/\(decide (b.tmod a < 0) != decide (a < 0))=true then b.tmod a+a else b.tmod a
theorem tmod_bd (a b:Int):(b.tmod a).natAbs<=b.natAbs:=by
 rw [Int.natAbs_tmod]
 exact Nat.mod_le _ _
theorem tmod_lt' (a b:Int) (h:a≠0):(b.tmod a).natAbs < a.natAbs:=by
 rw [Int.natAbs_tmod]
 exact Nat.mod_lt _ (by omega)
theorem restZ_good {a b:Int} (ha:Good a) (hb:Good b):Good (restZ a b):=by
 obtain ⟨a1,a2⟩:=ha
 obtain ⟨b1,b2⟩:=hb
 unfold restZ
 split
 ·exact ⟨b1,b2⟩
 ·rename_i h0
  have h1:=tmod_bd a b
  have h2:=tmod_lt' a b h0
  split
  ·rename_i h3
   obtain ⟨h3,h4⟩:=h3
   refine ⟨?_,?_⟩ <;> (by_cases c1:b.tmod a < 0 <;> by_cases c2:a < 0 <;> simp [c1,c2] at h4 <;> omega)
  ·exact ⟨by omega,by omega⟩
theorem restInt_any (a b:Int) (ha:Good a) (hb:Good b) (w:World):Calls Tryz.prog 263 #[.int .i64 a,.int .i64 b] w fun e w'=>e= .returned (.int .i64 (restZ a b))/\w=w':=by
 obtain ⟨a1,a2⟩:=ha
 obtain ⟨b1,b2⟩:=hb
 by_cases h0:a=0
 ·have HR:Hid (restZ a b=b):=if_pos h0
  have e0:(a==0)=true:=by simpa using h0
  clear h0
  go_enter Tryz.func263,Tryz.ntmps263
  go_wp2
  go_ret
  exact ⟨by rw [HR.out];rfl,rfl⟩
 ·have HR:Hid (restZ a b=if b.tmod a≠0/\(decide (b.tmod a < 0) != decide (a < 0))=true then b.tmod a+a else b.tmod a):=if_neg h0
  have h1:=tmod_bd a b
  have h2:=tmod_lt' a b h0
  have e0:(a==0)=false:=by simpa using h0
  have e1:¬ a=0:=h0
  by_cases hc:b.tmod a≠0/\(decide (b.tmod a < 0) != decide (a < 0))=true
  ·rw [if_pos hc] at HR
   obtain ⟨c1,c2⟩:=hc
   have c1':(b.tmod a != 0)=true:=by simpa using c1
   have c2':(!(decide (b.tmod a < 0)==decide (a < 0)))=true:=c2
   go_enter Tryz.func263,Tryz.ntmps263
   go_wp2
   go_ret
   exact ⟨by rw [HR.out];rfl,rfl⟩
  ·rw [if_neg hc] at HR
   by_cases c1:b.tmod a=0
   ·have c1':(b.tmod a != 0)=false:=by simpa using c1
    clear hc c1
    go_enter Tryz.func263,Tryz.ntmps263
    go_wp2
    go_ret
    exact ⟨by rw [HR.out];rfl,rfl⟩
   ·have c1':(b.tmod a != 0)=true:=by simpa using c1
    have c2:(decide (b.tmod a < 0) != decide (a < 0))=false:=by
     cases hd:(decide (b.tmod a < 0) != decide (a < 0)) with
     | false=>rfl
     | true=>exact absurd ⟨c1,hd⟩ hc
    have c2':(!(decide (b.tmod a < 0)==decide (a < 0)))=false:=c2
    clear hc
    go_enter Tryz.func263,Tryz.ntmps263
    go_wp2
    go_ret
    exact ⟨by rw [HR.out];rfl,rfl⟩
noncomputable def restP (a b:Nat):Nat×Int:=match wholeP a,wholeP b with
 | some x,some y=>(fi (restZ x y),0)
 | _,_=>(0,24)
theorem restP_of {a b:Nat}{x y:Int} (ha:wholeP a=some x) (hb:wholeP b=some y):restP a b=(fi (restZ x y),0):=by unfold restP;rw [ha,hb]
theorem restP_no {a b:Nat} (h:wholeP a=none\/wholeP b=none):restP a b=(0,24):=by
 unfold restP
 rcases h with h | h
 ·rw [h]
 ·rw [h];cases wholeP a <;> rfl
theorem nrest_any (a b:Nat) (ha:TF a) (hb:TF b) (w:World):Calls Tryz.prog 270 #[.float .f64 a,.float .f64 b] w fun e w'=>e= .returned (.tuple #[.float .f64 (restP a b).1,.int .i64 (restP a b).2])/\w=w':=by
 rcases whole_cases ha with ⟨x,hx,rfl,ex⟩ | ⟨ex,s,Z,hz,rfl,hn⟩
 ·rcases whole_cases hb with ⟨y,hy,rfl,ey⟩ | ⟨ey,t,Y,hy,rfl,hm⟩
  ·rw [restP_of ex ey]
   have HA:=Lib.hid (fun W=>nwhole_fi x hx W)
   have HB:=Lib.hid (fun W=>nwhole_fi y hy W)
   have HR:=Lib.hid (fun W=>restInt_any x y hx hy W)
   clear ha hb hx hy ex ey
   generalize restZ x y=r at *
   go_enter Tryz.func270,Tryz.ntmps270
   go_wp2_with fail
   refine (HA.out _).mono ?_
   rintro e w' ⟨rfl,rfl⟩
   go_wp2_with fail
   refine (HB.out _).mono ?_
   rintro e w' ⟨rfl,rfl⟩
   go_wp2_with fail
   refine (HR.out _).mono ?_
   rintro e w' ⟨rfl,rfl⟩
   go_wp2
   go_ret2
   exact ⟨rfl,rfl⟩
  ·rw [restP_no (.inr ey)]
   have HA:=Lib.hid (fun W=>nwhole_fi x hx W)
   have HB:=Lib.hid (fun W=>nwhole_no t hy hm W)
   clear ha hb hx hy ex ey hm
   go_enter Tryz.func270,Tryz.ntmps270
   go_wp2_with fail
   refine (HA.out _).mono ?_
   rintro e w' ⟨rfl,rfl⟩
   go_wp2_with fail
   refine (HB.out _).mono ?_
   rintro e w' ⟨⟨n,rfl⟩,rfl⟩
   go_wp2
   go_ret2
   exact ⟨rfl,rfl⟩
 ·rw [restP_no (.inl ex)]
  have HA:=Lib.hid (fun W=>nwhole_no s hz hn W)
  have HB:Hid (∃ (m:Int) (t:Bool),∀ W,Calls Tryz.prog 226 #[.float .f64 b] W fun e w'=>(∃ m:Int,e= .returned (.tuple #[.int .i64 m,.bool t]))/\W=w'):=by
   rcases whole_cases hb with ⟨y,hy,rfl,ey⟩ | ⟨ey,t,Y,hy,rfl,hm⟩
   ·exact ⟨y,true,fun W=>(nwhole_fi y hy W).mono fun e w' ⟨h1,h2⟩=>⟨⟨y,h1⟩,h2⟩⟩
   ·exact ⟨(0:Int),false,fun W=>nwhole_no t hy hm W⟩
  obtain ⟨_,t,hB⟩:=HB.out
  have HB2:=Lib.hid hB
  clear ha hb hz hn ex HB hB
  go_enter Tryz.func270,Tryz.ntmps270
  go_wp2_with fail
  refine (HA.out _).mono ?_
  rintro e w' ⟨⟨n,rfl⟩,rfl⟩
  go_wp2_with fail
  refine (HB2.out _).mono ?_
  rintro e w' ⟨⟨n,rfl⟩,rfl⟩
  go_wp2
  go_ret2
  exact ⟨rfl,rfl⟩
def cmpF (a b:Nat):Ordering:=(Ieee.double.order a b).getD .eq
theorem order_tf {a b:Nat} (ha:TF a) (hb:TF b):FloatKind.f64.format.order a b=some (cmpF a b):=by
 obtain ⟨s,Z,hz,rfl,_⟩:=ha
 obtain ⟨t,Y,hy,rfl,_⟩:=hb
 show Ieee.double.order _ _=_
 unfold cmpF
 rw [order_W s t hz hy]
 rfl
theorem cmpF_swap {a b:Nat} (ha:TF a) (hb:TF b):cmpF b a=(cmpF a b).swap:=by
 obtain ⟨s,Z,hz,rfl,_⟩:=ha
 obtain ⟨t,Y,hy,rfl,_⟩:=hb
 unfold cmpF
 rw [order_W s t hz hy,order_W t s hy hz]
 show compare _ _=(compare _ _).swap
 rcases Int.lt_trichotomy (sg s Z) (sg t Y) with h | h | h
 ·rw [cmp_lt h,cmp_gt h];rfl
 ·rw [h,cmp_eq];rfl
 ·rw [cmp_lt h,cmp_gt h];rfl
theorem cmpF_fi {a b:Int} (ha:Good a) (hb:Good b):cmpF (fi a) (fi b)=compare a b:=by
 unfold cmpF
 rw [order_fi a b (natAbs_good ha) (natAbs_good hb)]
 rfl
def maxP (a b:Nat):Nat:=if cmpF a b= .lt then b else a
def minP (a b:Nat):Nat:=if cmpF a b= .gt then b else a
theorem maxP_tf {a b:Nat} (ha:TF a) (hb:TF b):TF (maxP a b):=by unfold maxP;split <;> assumption
theorem minP_tf {a b:Nat} (ha:TF a) (hb:TF b):TF (minP a b):=by unfold minP;split <;> assumption
theorem nmax_any (a b:Nat) (ha:TF a) (hb:TF b) (w:World):Calls Tryz.prog 268 #[.float .f64 a,.float .f64 b] w fun e w'=>e= .returned (.float .f64 (maxP a b))/\w=w':=by
 have h1:=order_tf ha hb
 have h2:=order_tf hb ha
 rw [cmpF_swap ha hb] at h2
 unfold maxP
 clear ha hb
 cases hc:cmpF a b
 all_goals
  rw [hc] at h1 h2
  clear hc
  simp only [Ordering.swap] at h2
  go_enter Tryz.func268,Tryz.ntmps268
  go_wp2
  go_ret
  exact ⟨rfl,rfl⟩
theorem nmin_any (a b:Nat) (ha:TF a) (hb:TF b) (w:World):Calls Tryz.prog 269 #[.float .f64 a,.float .f64 b] w fun e w'=>e= .returned (.float .f64 (minP a b))/\w=w':=by
 have h1:=order_tf ha hb
 have h2:=order_tf hb ha
 rw [cmpF_swap ha hb] at h2
 unfold minP
 clear ha hb
 cases hc:cmpF a b
 all_goals
  rw [hc] at h1 h2
  clear hc
  simp only [Ordering.swap] at h2
  go_enter Tryz.func269,Tryz.ntmps269
  go_wp2
  go_ret
  exact ⟨rfl,rfl⟩
theorem arith_1 (a b:Nat) (ha:TF a) (hb:TF b) (w:World):Calls Tryz.prog 238 #[.int .i64 1,.float .f64 a,.float .f64 b] w fun e w'=>e= .returned (.tuple #[.float .f64 (doneP (opB .add a b)).1,.int .i64 (doneP (opB .add a b)).2])/\w=w':=by
 have HC:=Lib.hid (fun W=>nadd_any a b ha hb W)
 clear ha hb
 generalize doneP (opB .add a b)=d at *
 go_enter Tryz.func238,Tryz.ntmps238
 go_wp2_with fail
 refine (HC.out _).mono ?_
 rintro e w' ⟨rfl,rfl⟩
 go_wp2
 go_ret2
 exact ⟨rfl,rfl⟩
theorem arith_2 (a b:Nat) (ha:TF a) (hb:TF b) (w:World):Calls Tryz.prog 238 #[.int .i64 2,.float .f64 a,.float .f64 b] w fun e w'=>e= .returned (.tuple #[.float .f64 (doneP (opB .sub a b)).1,.int .i64 (doneP (opB .sub a b)).2])/\w=w':=by
 have HC:=Lib.hid (fun W=>nsub_any a b ha hb W)
 clear ha hb
 generalize doneP (opB .sub a b)=d at *
 go_enter Tryz.func238,Tryz.ntmps238
 go_wp2_with fail
 refine (HC.out _).mono ?_
 rintro e w' ⟨rfl,rfl⟩
 go_wp2
 go_ret2
 exact ⟨rfl,rfl⟩
theorem arith_3 (a b:Nat) (ha:TF a) (hb:TF b) (w:World):Calls Tryz.prog 238 #[.int .i64 3,.float .f64 a,.float .f64 b] w fun e w'=>e= .returned (.tuple #[.float .f64 (doneP (opB .mul a b)).1,.int .i64 (doneP (opB .mul a b)).2])/\w=w':=by
 have HC:=Lib.hid (fun W=>nmul_any a b ha hb W)
 clear ha hb
 generalize doneP (opB .mul a b)=d at *
 go_enter Tryz.func238,Tryz.ntmps238
 go_wp2_with fail
 refine (HC.out _).mono ?_
 rintro e w' ⟨rfl,rfl⟩
 go_wp2
 go_ret2
 exact ⟨rfl,rfl⟩
theorem arith_4 (a b:Nat) (ha:TF a) (hb:TF b) (w:World):Calls Tryz.prog 238 #[.int .i64 4,.float .f64 a,.float .f64 b] w fun e w'=>e= .returned (.tuple #[.float .f64 (divP a b).1,.int .i64 (divP a b).2])/\w=w':=by
 have HC:=Lib.hid (fun W=>ndiv_any a b ha hb W)
 clear ha hb
 generalize divP a b=d at *
 go_enter Tryz.func238,Tryz.ntmps238
 go_wp2_with fail
 refine (HC.out _).mono ?_
 rintro e w' ⟨rfl,rfl⟩
 go_wp2
 go_ret2
 exact ⟨rfl,rfl⟩
theorem arith_5 (a b:Nat) (ha:TF a) (hb:TF b) (w:World):Calls Tryz.prog 238 #[.int .i64 5,.float .f64 a,.float .f64 b] w fun e w'=>e= .returned (.tuple #[.float .f64 (maxP a b),.int .i64 0])/\w=w':=by
 have HC:=Lib.hid (fun W=>nmax_any a b ha hb W)
 clear ha hb
 generalize maxP a b=d at *
 go_enter Tryz.func238,Tryz.ntmps238
 go_wp2_with fail
 refine (HC.out _).mono ?_
 rintro e w' ⟨rfl,rfl⟩
 go_wp2
 go_ret2
 exact ⟨rfl,rfl⟩
theorem arith_6 (a b:Nat) (ha:TF a) (hb:TF b) (w:World):Calls Tryz.prog 238 #[.int .i64 6,.float .f64 a,.float .f64 b] w fun e w'=>e= .returned (.tuple #[.float .f64 (minP a b),.int .i64 0])/\w=w':=by
 have HC:=Lib.hid (fun W=>nmin_any a b ha hb W)
 clear ha hb
 generalize minP a b=d at *
 go_enter Tryz.func238,Tryz.ntmps238
 go_wp2_with fail
 refine (HC.out _).mono ?_
 rintro e w' ⟨rfl,rfl⟩
 go_wp2
 go_ret2
 exact ⟨rfl,rfl⟩
theorem arith_7 (a b:Nat) (ha:TF a) (hb:TF b) (w:World):Calls Tryz.prog 238 #[.int .i64 7,.float .f64 a,.float .f64 b] w fun e w'=>e= .returned (.tuple #[.float .f64 (restP a b).1,.int .i64 (restP a b).2])/\w=w':=by
 have HC:=Lib.hid (fun W=>nrest_any a b ha hb W)
 clear ha hb
 generalize restP a b=d at *
 go_enter Tryz.func238,Tryz.ntmps238
 go_wp2_with fail
 refine (HC.out _).mono ?_
 rintro e w' ⟨rfl,rfl⟩
 go_wp2
 go_ret2
 exact ⟨rfl,rfl⟩
abbrev one:Nat:=4607182418800017408
theorem tf_eq {a b:Nat} (ha:TF a) (hb:TF b):cmpF a b= .eq↔a=b:=by
 constructor
 ·obtain ⟨s,Z,hz,rfl,h1⟩:=ha
  obtain ⟨t,Y,hy,rfl,h2⟩:=hb
  intro h
  unfold cmpF at h
  rw [order_W s t hz hy] at h
  have hsg:sg s Z=sg t Y:=by
   rcases Int.lt_trichotomy (sg s Z) (sg t Y) with h3 | h3 | h3
   ·rw [cmp_lt h3] at h;cases h
   ·exact h3
   ·rw [cmp_gt h3] at h;cases h
  have hzy:Z=Y:=by
   have e1:=natAbs_sg s Z
   have e2:=natAbs_sg t Y
   rw [hsg] at e1
   omega
  subst hzy
  by_cases h0:Z=0
  ·rw [h1 h0,h2 h0]
  ·have:s=t:=by
    cases s <;> cases t <;> first | rfl | (simp [sg] at hsg;omega)
   rw [this]
 ·rintro rfl
  obtain ⟨s,Z,hz,rfl,h1⟩:=ha
  unfold cmpF
  rw [order_W s s hz hz,cmp_eq]
  rfl
def relB (f:Int) (a b:Nat):Bool :=
 if f=11 then cmpF a b== .lt else if f=12 then cmpF a b != .gt else if f=13 then cmpF a b== .eq else if f=14 then cmpF a b != .lt else if f=15 then cmpF a b== .gt else cmpF a b != .eq
def flagF (t:Bool):Nat:=if t then one else 0
theorem tf_flag (t:Bool):TF (flagF t):=by cases t;exact tf_zero;exact tf_one
def logB (f:Int) (x y:Bool):Bool:=if f=21 then x&&y else if f=22 then x||y else if f=23 then !(x&&y) else !(x||y)
def isT (a:Nat):Bool:=decide (a=0\/a=one)
def tv (a:Nat):Bool:=decide (a=one)
def logP (f:Int) (a b:Nat):Nat×Int:=if isT a&&isT b then (flagF (logB f (tv a) (tv b)),0) else (0,24)
theorem int6 {P:Int->Prop} (f:Int) (h1:11<=f) (h2:f<=16) (a:P 11) (b:P 12) (c:P 13) (d:P 14) (e:P 15) (g:P 16):P f:=by
 have:f=11\/f=12\/f=13\/f=14\/f=15\/f=16:=by omega
 rcases this with rfl | rfl | rfl | rfl | rfl | rfl <;> assumption
theorem int4 {P:Int->Prop} (f:Int) (h1:21<=f) (h2:f<=24) (a:P 21) (b:P 22) (c:P 23) (d:P 24):P f:=by
 have:f=21\/f=22\/f=23\/f=24:=by omega
 rcases this with rfl | rfl | rfl | rfl <;> assumption
theorem relate_any (f:Int) (hf:11<=f) (hf2:f<=16) (a b:Nat) (ha:TF a) (hb:TF b) (w:World):Calls Tryz.prog 241 #[.int .i64 f,.float .f64 a,.float .f64 b] w fun e w'=>e= .returned (.tuple #[.bool (relB f a b),.int .i64 0])/\w=w':=by
 have h1:=order_tf ha hb
 refine int6 (P:=fun f=>Calls Tryz.prog 241 #[.int .i64 f,.float .f64 a,.float .f64 b] w fun e w'=>e= .returned (.tuple #[.bool (relB f a b),.int .i64 0])/\w=w') f hf hf2 ?_ ?_ ?_ ?_ ?_ ?_
 all_goals
  unfold relB
  clear ha hb hf hf2
  cases hc:cmpF a b
  all_goals
   rw [hc] at h1
   clear hc
   go_enter Tryz.func241,Tryz.ntmps241
   go_wp2
   go_ret2
   exact ⟨rfl,rfl⟩
def tabN (f:Int):Nat:=if f=21 then 8 else if f=22 then 14 else if f=23 then 7 else 1
theorem table_any (f:Int) (hf:21<=f) (hf2:f<=24) (w:World):Calls Tryz.prog 175 #[.int .i64 f] w fun e w'=>e= .returned (.tuple #[.int .u8 (tabN f:Nat),.bool true])/\w=w':=by
 refine int4 (P:=fun f=>Calls Tryz.prog 175 #[.int .i64 f] w fun e w'=>e= .returned (.tuple #[.int .u8 (tabN f:Nat),.bool true])/\w=w') f hf hf2 ?_ ?_ ?_ ?_
 all_goals
  clear hf hf2
  go_enter Tryz.func175,Tryz.ntmps175
  go_wp2
  go_ret2
  exact ⟨rfl,rfl⟩
theorem logic_any (f:Int) (hf:21<=f) (hf2:f<=24) (x y:Bool) (w:World):Calls Tryz.prog 251 #[.int .i64 f,.bool x,.bool y] w fun e w'=>e= .returned (.tuple #[.bool (logB f x y),.int .i64 0])/\w=w':=by
 have HT:=Lib.hid (fun W=>table_any f hf hf2 W)
 have HF:Hid (f=21\/f=22\/f=23\/f=24):=by show _\/_;omega
 clear hf hf2
 rcases HF.out with e | e | e | e
 all_goals
  subst e
  cases x <;> cases y
  all_goals
   go_enter Tryz.func251,Tryz.ntmps251
   go_wp2_with fail
   refine (HT.out _).mono ?_
   rintro e w' ⟨rfl,rfl⟩
   go_wp2
   go_ret2
   exact ⟨rfl,rfl⟩
end Go.Proofs.YtakgmnafbjdccaaGreatDoor
