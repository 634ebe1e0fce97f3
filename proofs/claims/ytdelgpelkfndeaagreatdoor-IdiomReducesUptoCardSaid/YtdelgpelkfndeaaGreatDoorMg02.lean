/- The walk of vec.Floats where all numbers are finite. The walks of whole numbers' sums and differences, and of fold.whole at them; a Vec's numbers as whole .. Conditions: as each theorem says. -/
import Derived.Test.YtdelgpelkfndeaaGreatDoorMgA
import Derived.Test.YtdelgpelkfndeaaGreatDoorMg01
import Derived.Test.YtdelgpelkfndeaaGreatDoorMg00
import Derived.Deep.RegionHeld3
import Derived.Deep.CutRange
import Derived.Laws.MakeOwn
import Derived.Deep.QuietTactic
import Derived.BigQuiet
set_option maxRecDepth 100000
set_option maxHeartbeats 2000000
namespace Go.Proofs.YtdelgpelkfndeaaGreatDoor
open Go Go.RowKit Go.Proofs Fl
theorem Qag {w:World}{G:Nat}{e:TypeId}{k:Int}{b:Value}{bn:Int}{s i f c x:Value} (h:w.heap[G]?=some (.cells #[.int .i64 k,b,.int .i64 bn,s,i,f,c,x] e)) :
  Boxed w G k b bn s i f c x/\∀ j,w.frozen? ⟨G,j,none⟩=false:=by
 have h2:∀ j u,#[.int .i64 k,b,.int .i64 bn,s,i,f,c,x][j]?=some u->w.cell? ⟨G,j,none⟩=some u:=by
  intro j u hu
  rw [cell_of_row _ G j _ e (0,0) h]
  exact hu
 exact ⟨⟨h2 0 _ rfl,h2 1 _ rfl,h2 2 _ rfl,h2 3 _ rfl,h2 4 _ rfl,h2 5 _ rfl,h2 6 _ rfl,h2 7 _ rfl⟩,fun j=>frozen_of_row _ _ j _ e h⟩
abbrev zcells:Array Value:=#[.int .i64 0,.slice none 0 0,.int .i64 0,.slice none 0 0,.slice none 0 0,.slice none 0 0,.slice none 0 0,.slice none 0 0]
theorem QeX (b o n c:Nat) (x y:Nat->Nat) (hn:n<=1000000) (w:World) (hc:∀ i,i < n->w.cell? ⟨b,o+i,none⟩=some (.float .f64 (x i)))
  (ht:∀ i,i < n->∀ W,Calls Tryz.prog 172 #[.float .f64 (x i)] W fun e w'=>e= .returned (.tuple #[.float .f64 (y i),.bool true])/\W=w') :
  Calls Tryz.prog 116 #[.slice (some ⟨b,o,none⟩) n c] w fun e w'=>∃ u,e= .returned (.tuple #[vecV 4 vnil 0 vnil vnil u vnil vnil,.bool true])/\Own1 w' w.heap.size 60 u ((List.range n).map fun j => .float .f64 (y j))/\Below w.heap.size w w':=by
 have HC:Hid (∀ wr,Below w.heap.size w wr->∀ i,i < n->wr.cell? ⟨b,o+i,none⟩=some (.float .f64 (x i))):=by
  intro wr hb i h
  rw [hb.cell (Qav (hc i h))];exact hc i h
 have HT:=hD ht
 have hmk:=run_make_row' (P:=Tryz.prog) 36 60 (.float .f64 0) 8 Tryz.underlying36 Qds rfl .i64 .i64 n (by omega) (by omega)
 clear hc ht
 have hsz:(w.alloc (.cells zcells 39)).heap.size=w.heap.size+1:=by simp
 have HF0:=hD (Fill.made (w.alloc (.cells zcells 39)) w.heap.size (by simp) 60 (fun j => .float .f64 (y j)) (.float .f64 0) n (by unfold maxLen;omega))
 rw [hsz] at HF0
 have HB0:=hD (bel2 w (.cells zcells 39) (.cells (madeCells #[.float .f64 0] n) 60))
 have HK0:=hD (Qar (bel1 (w.alloc (.cells zcells 39)) (.cells (madeCells #[.float .f64 0] n) 60)))
 clear hsz
 go_enter Tryz.func116,Tryz.ntmps116
 go_wp2
 go_loopw [14] (fun j wr=>∃ m:Nat,m<=n/\j= .int .i64 m/\Fill wr w.heap.size (w.heap.size+1) 60 (fun j => .float .f64 (y j)) (.float .f64 0) n m/\Below w.heap.size w wr/\wr.heap[w.heap.size]?=some (.cells zcells 39)) (fun j _=>n - (intOf j).toNat)
 case atStart=>exact ⟨0,Nat.zero_le _,rfl,HF0.out,HB0.out,HK0.out⟩
 case round =>
  obtain ⟨m,hm,rfl,hf,hbl,hk⟩:=hrel
  have HF:=hD hf
  have HBL:=hD hbl
  have HK:=hD hk
  clear hf hbl hk
  by_cases hlt:m < n
  ·have hcell:=HC.out wr HBL.out m hlt
   have hc3:=HF.out.cell hlt
   have hz3:=HF.out.frozen m
   have HP:=hD (HF.out.put hlt)
   have HB3:=hD (HF.out.bel HBL.out m (.float .f64 (y m)))
   have HK3:=hD (show (wr.setCell ⟨w.heap.size+1,m,none⟩ (.float .f64 (y m))).heap[w.heap.size]?=some (.cells zcells 39) by rw [Below.heap_setCell _ _ _ _ (by simp)];exact HK.out)
   have hst:=fun md=>QaG hc3 hz3 .f64 (y m) md
   have HTM:=hD (HT.out m hlt)
   go_wp2_with fail
   refine (HTM.out _).mono ?_
   rintro e w3 ⟨rfl,rfl⟩
   go_wp2
   go_roundw
   case rel=>exact ⟨m+1,by omega,by go_num,HP.out,HB3.out,HK3.out⟩
   case measure=>simp [intOf];omega
  ·obtain rfl:m=n:=by omega
   obtain ⟨⟨h0,h1,h2,h3,h4,h5,h6,h7⟩,hz⟩:=Qag HK.out
   go_wp2
   refine bodyPost_ret (v := .tuple #[vecV 4 vnil 0 vnil vnil (.slice (some ⟨w.heap.size+1,0,none⟩) m m) vnil vnil,.bool true]) ?_ rfl ⟨.slice (some ⟨w.heap.size+1,0,none⟩) m m,rfl,Qcr HF.out.own (by simp [Value.ownBlock]) _ _ _ _ _ _ _ _,Qac HBL.out (Nat.le_refl _) _ _ _ _ _ _ _ _⟩
   exact Qas (fn:=Tryz.f116) (p:=2) (u:=3) rfl _ _ w.heap.size (by rfl) (Qad HK.out _ _ _ _ _ _ _ _)
abbrev Good (n:Int):Prop := -9007199254740992<=n/\n<=9007199254740992
theorem Qjt (a:Int) (h:Good a) (w:World):Calls Tryz.prog 247 #[.int .i64 a] w fun e w'=>e= .returned (.bool true)/\w=w':=by
 obtain ⟨h1,h2⟩:=h
 go_enter Tryz.func247,Tryz.ntmps247
 go_wp2
 go_ret
 exact ⟨by simp,rfl⟩
theorem QqP (a:Int) (h:Good a) (w:World):Calls Tryz.prog 249 #[.int .i64 a] w fun e w'=>e= .returned (.tuple #[.int .i64 a,.bool true])/\w=w':=by
 obtain ⟨h1,h2⟩:=h
 go_enter Tryz.func249,Tryz.ntmps249
 go_wp2
 go_ret2
 exact ⟨by simp,rfl⟩
theorem QoE (a:Int) (w:World):Calls Tryz.prog 248 #[.int .i64 a,.bool true] w fun e w'=>e= .returned (.tuple #[.int .i64 a,.bool true])/\w=w':=by
 go_enter Tryz.func248,Tryz.ntmps248
 go_wp2
 go_ret2
 exact ⟨rfl,rfl⟩
theorem QqQ (a b:Int) (ha:Good a) (hb:Good b) (hs:Good (a+b)) (w:World):Calls Tryz.prog 198 #[.int .i64 a,.int .i64 b] w fun e w'=>e= .returned (.tuple #[.int .i64 (a+b),.bool true])/\w=w':=by
 have HA:=hD (Qjt a ha)
 have HB:=hD (Qjt b hb)
 have HF:=hD (QqP (a+b) hs)
 have HP:=hD (QoE (a+b))
 obtain ⟨h1,h2⟩:=ha
 obtain ⟨h3,h4⟩:=hb
 obtain ⟨h5,h6⟩:=hs
 go_enter Tryz.func198,Tryz.ntmps198
 go_wp2_with fail
 refine (HA.out _).mono ?_
 rintro e w' ⟨rfl,rfl⟩
 go_wp2_with fail
 refine (HB.out _).mono ?_
 rintro e w' ⟨rfl,rfl⟩
 go_wp2_with fail
 refine (HF.out _).mono ?_
 rintro e w' ⟨rfl,rfl⟩
 go_wp2_with fail
 refine (HP.out _).mono ?_
 rintro e w' ⟨rfl,rfl⟩
 go_wp2
 go_ret2
 exact ⟨rfl,rfl⟩
def rankS (n:Int):Nat:=if n=0\/n=1 then 1 else if -128<=n/\n<=127 then 2 else 3
theorem Qju (n:Int) (w:World):Calls Tryz.prog 236 #[.int .i64 n] w fun e w'=>e= .returned (.int .i64 (rankS n:Nat))/\w=w':=by
 go_enter Tryz.func236,Tryz.ntmps236
 go_wp2
 all_goals go_ret
 all_goals refine ⟨?_,rfl⟩
 all_goals refine congrArg (fun b=>Ending.returned (.int .i64 b)) ?_
 all_goals unfold rankS
 all_goals (try simp only [beq_iff_eq,beq_eq_false_iff_ne,ne_eq] at *)
 all_goals first | (rw [if_pos (by omega)];rfl) | (rw [if_neg (by omega),if_pos (by omega)];rfl) | (rw [if_neg (by omega),if_neg (by omega)];rfl)
theorem Qaa {w a b:World} (h:Below w.heap.size w a) (k:Below a.heap.size a b):Below w.heap.size w b:=h.trans (k.mono h.size)
theorem QqR:(Tryz.prog.info? 194).map (fun i=>(i.zero,i.size,i.bytes))=some (some (.int .i8 0),1,1):=by kernel_rfl
structure St (w W:World) (k:Int) (b:Value) (bn:Int) (s i f c x:Value):Prop where
 box:Boxed W w.heap.size k b bn s i f c x
 res:W.heap[w.heap.size+1]?=some (.cells zcells 39)
 bel:Below w.heap.size w W
abbrev StC (w W:World) (k:Int) (b:Value) (bn:Int) (s i f c x:Value):Prop:=(W.cell? ⟨w.heap.size,0,none⟩=some (.int .i64 k)/\W.cell? ⟨w.heap.size,1,none⟩=some b/\W.cell? ⟨w.heap.size,2,none⟩=some (.int .i64 bn)/\W.cell? ⟨w.heap.size,3,none⟩=some s/\W.cell? ⟨w.heap.size,4,none⟩=some i/\W.cell? ⟨w.heap.size,5,none⟩=some f/\W.cell? ⟨w.heap.size,6,none⟩=some c/\W.cell? ⟨w.heap.size,7,none⟩=some x)
theorem St.new (w:World) (k:Int) (b:Value) (bn:Int) (s i f c x:Value):St w ((w.alloc (.cells #[.int .i64 k,b,.int .i64 bn,s,i,f,c,x] 39)).alloc (.cells zcells 39)) k b bn s i f c x :=
 ⟨(QaF w 39 k b bn s i f c x).below (bel1 _ (.cells zcells 39)),by
  have:=heap_alloc_new (w.alloc (.cells #[.int .i64 k,b,.int .i64 bn,s,i,f,c,x] 39)) (.cells zcells 39)
  simpa using this,bel2 w _ _⟩
theorem St.step {w W W':World}{k:Int}{b:Value}{bn:Int}{s i f c x:Value} (h:St w W k b bn s i f c x) (hb:Below W.heap.size W W'):St w W' k b bn s i f c x :=
 ⟨h.box.below hb,by rw [hb.block _ (Qag h.res).1.lt];exact h.res,Qaa h.bel hb⟩
theorem Qgy (n:Int):1<=rankS n/\rankS n<=3:=by unfold rankS;split <;> (try split) <;> omega
def Keeps (H:Nat->Prop) (w:World) (R:World->Prop):Prop:=∀ w',w.heap.size<=w'.heap.size->(∀ b,b < w.heap.size->¬ H b->w'.heap[b]?=w.heap[b]?)->R w'
theorem Keeps.now {H:Nat->Prop}{w:World}{R:World->Prop} (h:Keeps H w R):R w:=h w (Nat.le_refl _) fun _ _ _=>rfl
theorem Keeps.sub {H H':Nat->Prop}{w:World}{R:World->Prop} (h:Keeps H w R) (hs:∀ b,b < w.heap.size->H' b->H b):Keeps H' w R :=
 fun w' hz hb=>h w' hz fun b hl hn=>hb b hl fun hh=>hn (hs b hl hh)
theorem Keeps.imp {H:Nat->Prop}{w:World}{R R':World->Prop} (h:Keeps H w R) (hi:∀ w',R w'->R' w'):Keeps H w R':=fun w' hz hb=>hi _ (h w' hz hb)
theorem Keeps.below' {H:Nat->Prop}{w w1:World}{R:World->Prop} (h:Keeps H w R) (hb:Below w.heap.size w w1) (H':Nat->Prop) (hs:∀ b,b < w.heap.size->H' b->H b):Keeps H' w1 R :=
 fun w' hz' hb'=>h w' (Nat.le_trans hb.size hz') fun b hl hn=>by rw [hb' b (Nat.lt_of_lt_of_le hl hb.size) (fun e=>hn (hs b hl e)),hb.block b hl]
theorem Keeps.step {H:Nat->Prop}{w w1:World}{R:World->Prop} (h:Keeps H w R) (hb:Below w.heap.size w w1):Keeps H w1 R:=h.below' hb H fun _ _ e=>e
theorem QaP (w:World) (a:Addr) (u:Value):(w.setCell a u).heap.size=w.heap.size:=by
 have h1:=((Below.refl 0 w).setCell (Nat.zero_le a.block) u).size
 have h2:(w.setCell a u).heap.size<=w.heap.size:=by
  unfold World.setCell
  split <;> simp
 omega
theorem Keeps.set {H:Nat->Prop}{w:World}{R:World->Prop} (h:Keeps H w R){a:Addr} (ha:H a.block) (u:Value):Keeps H (w.setCell a u) R :=
 fun w' hz hb=>h w' (by rw [QaP] at hz;exact hz) fun b hl hn=>by
  rw [hb b (by rw [QaP];exact hl) hn,Below.heap_setCell _ _ _ _ (fun e=>hn (by rw [e];exact ha))]
theorem Keeps.set8 {H:Nat->Prop}{w:World}{R:World->Prop} (h:Keeps H w R){G:Nat} (hG:H G) (a0 a1 a2 a3 a4 a5 a6 a7:Value):Keeps H (set8 w G a0 a1 a2 a3 a4 a5 a6 a7) R :=
 (((((((h.set hG _).set hG _).set hG _).set hG _).set hG _).set hG _).set hG _).set hG _
theorem Own1.keeps {w:World}{B:Nat}{e:TypeId}{v:Value}{xs:List Value} (h:Own1 w B e v xs):Keeps (fun b=>b < B) w fun w'=>Reads1 w' v xs:=by
 intro w' hz hb
 rcases h.reads with h1 | ⟨b,o,n,c,rfl,hn,hc⟩
 ·exact .inl h1
 ·refine .inr ⟨b,o,n,c,rfl,hn,fun i hi=>?_⟩
  have hcell:=hc i hi
  have hlt:=Qav hcell
  have hB:B<=b:=by
   rcases h.2 with ⟨h2,_⟩ | ⟨g,cap,cur,hv,hbg,_⟩
   ·cases h2
   ·injection hv with h3 _ _
    injection h3 with h4
    injection h4 with h5 _ _
    omega
  rw [World.cell?_of_block (w:=w) (hb b hlt (by omega))]
  exact hcell
abbrev Hole (H:Nat->Prop) (w W:World):Nat->Prop:=fun b=>H b\/(w.heap.size<=b/\b < W.heap.size)
theorem Keeps.arg {H:Nat->Prop}{w W:World}{R:World->Prop} (h:Keeps H w R) (hb:Below w.heap.size w W):Keeps (Hole H w W) W R :=
 h.below' hb _ fun b hl e=>by
  rcases e with e | ⟨e,_⟩
  ·exact e
  ·omega
theorem Hole.lt {H:Nat->Prop}{w W:World} (hH:∀ b,H b->b < w.heap.size) (hb:Below w.heap.size w W):∀ b,Hole H w W b->b < W.heap.size:=by
 rintro b (e | ⟨_,e⟩)
 ·exact Nat.lt_of_lt_of_le (hH b e) hb.size
 ·exact e
theorem Own1.keepsH {w:World}{B:Nat}{e:TypeId}{v:Value}{xs:List Value} (h:Own1 w B e v xs){H:Nat->Prop} (hH:∀ b,H b->b < B):Keeps H w fun w'=>Reads1 w' v xs:=h.keeps.sub fun b _ e=>hH b e
theorem St.al {w W:World}{k:Int}{b:Value}{bn:Int}{s i f c x:Value} (h:St w W k b bn s i f c x) (o:Obj):St w (W.alloc o) k b bn s i f c x:=h.step (bel1 W o)
theorem St.dr {w W:World}{k:Int}{b:Value}{bn:Int}{s i f c x:Value} (h:St w W k b bn s i f c x):St w W.drew k b bn s i f c x:=h.step (Below.refl _ W).drew
theorem St.put {w W:World}{k:Int}{b:Value}{bn:Int}{s i f c x:Value} (h:St w W k b bn s i f c x){g j:Nat} (ha:w.heap.size+2<=g) (u:Value):St w (W.setCell ⟨g,j,none⟩ u) k b bn s i f c x :=
 ⟨h.box.set (by show g≠_;omega) u,by rw [Below.heap_setCell _ _ _ _ (by show _≠g;omega)];exact h.res,h.bel.setCell (by show _<=g;omega) u⟩
theorem St.sz {w W:World}{k:Int}{b:Value}{bn:Int}{s i f c x:Value} (h:St w W k b bn s i f c x):w.heap.size+2<=W.heap.size:=(Qag h.res).1.lt
theorem bcell2 {W w1:World} (hb:Below W.heap.size W w1):(∀ b o,b < W.heap.size->w1.cell? ⟨b,o,none⟩=W.cell? ⟨b,o,none⟩)/\(∀ b o,b < W.heap.size->w1.frozen? ⟨b,o,none⟩=W.frozen? ⟨b,o,none⟩) :=
 ⟨fun b o h=>hb.cell (p:=⟨b,o,none⟩) h,fun b o h=>hb.frozen (p:=⟨b,o,none⟩) h⟩
abbrev Sl:=Option Addr×Nat×Nat
abbrev vecW (k:Int) (b:Sl) (bn:Int) (s i f c x:Sl):Value:=vecV k (.slice b.1 b.2.1 b.2.2) bn (.slice s.1 s.2.1 s.2.2) (.slice i.1 i.2.1 i.2.2) (.slice f.1 f.2.1 f.2.2) (.slice c.1 c.2.1 c.2.2) (.slice x.1 x.2.1 x.2.2)
def Qs0 (H:Nat->Prop) (w W:World) (R:Value->World->Prop) (e:Ending) (w':World):Prop :=
 ∃ (k:Int) (b:Sl) (bn:Int) (s i f c x:Sl),e= .returned (.tuple #[vecW k b bn s i f c x,.bool true])/\Keeps (Hole H w W) w' (R (vecW k b bn s i f c x))/\Below W.heap.size W w'
def QoF (H:Nat->Prop) (w:World) (R:Value->World->Prop) (p:Value) (wx:World):Prop :=
 ∃ (G:Nat) (k:Int) (b:Sl) (bn:Int) (s i f c x:Sl),p= .pointer (some ⟨G,0,none⟩)/\wx.heap[G]?=some (.cells #[.int .i64 k,.slice b.1 b.2.1 b.2.2,.int .i64 bn,.slice s.1 s.2.1 s.2.2,.slice i.1 i.2.1 i.2.2,.slice f.1 f.2.1 f.2.2,.slice c.1 c.2.1 c.2.2,.slice x.1 x.2.1 x.2.2] 39)/\w.heap.size+2<=G /\
  wx.heap[w.heap.size+1]?=some (.cells zcells 39)/\Keeps (fun b=>H b\/(w.heap.size<=b/\b < w.heap.size+2)) wx (R (vecW k b bn s i f c x))/\Below w.heap.size w wx
def VecR (H:Nat->Prop) (w:World) (R:Value->World->Prop) (e:Ending) (w':World):Prop :=
 ∃ (k:Int) (b:Sl) (bn:Int) (s i f c x:Sl),e= .returned (vecW k b bn s i f c x)/\Keeps H w' (R (vecW k b bn s i f c x))/\Below w.heap.size w w'
theorem Qjv {H:Nat->Prop}{w W wx:World}{R:Value->World->Prop}{G:Nat}{k:Int}{b:Sl}{bn:Int}{s i f c x:Sl} (hW:w.heap.size+2<=W.heap.size) (hG:w.heap.size+2<=G)
  (h1:wx.heap[G]?=some (.cells #[.int .i64 k,.slice b.1 b.2.1 b.2.2,.int .i64 bn,.slice s.1 s.2.1 s.2.2,.slice i.1 i.2.1 i.2.2,.slice f.1 f.2.1 f.2.2,.slice c.1 c.2.1 c.2.2,.slice x.1 x.2.1 x.2.2] 39)) (h2:wx.heap[w.heap.size+1]?=some (.cells zcells 39))
  (h3:Keeps (Hole H w W) wx (R (vecW k b bn s i f c x))) (h4:Below w.heap.size w wx):QoF H w R (.pointer (some ⟨G,0,none⟩)) wx :=
 ⟨G,k,b,bn,s,i,f,c,x,rfl,h1,hG,h2,h3.sub (fun j _ e=>by rcases e with e | ⟨e1,e2⟩;exact .inl e;exact .inr ⟨e1,by omega⟩),h4⟩
theorem sq_s {w W:World}{k:Int}{b:Value}{bn:Int}{s i f c x:Value} (h:St w W k b bn s i f c x):StC w W k b bn s i f c x/\St w W k b bn s i f c x:=⟨h.box,h⟩
theorem sqz1 {w0:World}{a:Obj}{n:Nat} (h:((w0.alloc a).drew).heap.size<=n):w0.heap.size < n:=by simp [World.drew] at h;omega
theorem St.put8 {w W:World}{k:Int}{b:Value}{bn:Int}{s i f c x:Value} (h:St w W k b bn s i f c x){G:Nat} (hG:w.heap.size+2<=G) (a0 a1 a2 a3 a4 a5 a6 a7:Value):St w (set8 W G a0 a1 a2 a3 a4 a5 a6 a7) k b bn s i f c x :=
 (((((((h.put hG _).put hG _).put hG _).put hG _).put hG _).put hG _).put hG _).put hG _
theorem Qho {H:Nat->Prop}{w W w2:World}{R:Value->World->Prop}{G:Nat}{k:Int}{b:Value}{bn:Int}{s i f c x:Value}{k2:Int}{b2:Sl}{bn2:Int}{s2 i2 f2 c2 x2:Sl} (hW:w.heap.size+2<=W.heap.size) (hG:w.heap.size+2<=G) (hGW:G < W.heap.size)
  (h1:w2.heap[G]?=some (.cells zcells 39)) (hs:St w w2 k b bn s i f c x) (hk:Keeps (Hole H w W) w2 (R (vecW k2 b2 bn2 s2 i2 f2 c2 x2))) :
  QoF H w R (.pointer (some ⟨G,0,none⟩)) (set8 w2 G (.int .i64 k2) (.slice b2.1 b2.2.1 b2.2.2) (.int .i64 bn2) (.slice s2.1 s2.2.1 s2.2.2) (.slice i2.1 i2.2.1 i2.2.2) (.slice f2.1 f2.2.1 f2.2.2) (.slice c2.1 c2.2.1 c2.2.2) (.slice x2.1 x2.2.1 x2.2.2)) :=
 Qjv hW hG (Qad h1 _ _ _ _ _ _ _ _) (hs.put8 hG _ _ _ _ _ _ _ _).res (hk.set8 (.inr ⟨by omega,hGW⟩) _ _ _ _ _ _ _ _) (hs.put8 hG _ _ _ _ _ _ _ _).bel
theorem QlQ {H:Nat->Prop}{w W w2:World}{R:Value->World->Prop}{k:Int}{b:Value}{bn:Int}{s i f c x:Value}{k2:Int}{b2:Sl}{bn2:Int}{s2 i2 f2 c2 x2:Sl} (hW:w.heap.size+2<=W.heap.size)
  (hs:St w w2 k b bn s i f c x) (hk:Keeps (Hole H w W) w2 (R (vecW k2 b2 bn2 s2 i2 f2 c2 x2))) :
  QoF H w R (.pointer (some ⟨w2.heap.size,0,none⟩)) (w2.alloc (.cells #[.int .i64 k2,.slice b2.1 b2.2.1 b2.2.2,.int .i64 bn2,.slice s2.1 s2.2.1 s2.2.2,.slice i2.1 i2.2.1 i2.2.2,.slice f2.1 f2.2.1 f2.2.2,.slice c2.1 c2.2.1 c2.2.2,.slice x2.1 x2.2.1 x2.2.2] 39)) :=
 Qjv hW hs.sz (heap_alloc_new w2 _) (hs.al _).res (hk.step (bel1 w2 _)) (hs.al _).bel
theorem QqS {w1 w2:World}{o:Obj} (hb:Below (w1.alloc o).heap.size (w1.alloc o) w2):w2.heap[w1.heap.size]?=some o:=Qar hb
theorem QqT {w0 w1 w2:World}{o:Obj} (hb2:Below w1.heap.size w1 w2) (hb1:Below ((w0.alloc o).drew).heap.size ((w0.alloc o).drew) w1):w2.heap[w0.heap.size]?=some o:=by
 have h1:w1.heap[w0.heap.size]?=some o:=by
  rw [hb1.block _ (by simp [World.drew])]
  exact heap_alloc_new w0 o
 rw [hb2.block _ (lt_of_block h1)]
 exact h1
theorem Qs1 {n:Nat}{w1:World} (h:n<=w1.heap.size) (o:Obj):n<=(w1.alloc o).heap.size:=by simp;omega
theorem Qs2 (w1:World) (o:Obj):w1.heap.size < (w1.alloc o).heap.size:=by simp
theorem Qix (H:Nat->Prop) (R:Value->World->Prop) (kd:Int) (k:Int) (b:Value) (bn:Int) (s i f c x:Value) (w:World)
  (hle:∀ W,Below w.heap.size w W->Calls Tryz.prog 174 #[vecV k b bn s i f c x] W fun e w'=>e= .returned (.int .i64 kd)/\Below W.heap.size W w')
  (hin:∀ W,Below w.heap.size w W->Calls Tryz.prog 173 #[vecV k b bn s i f c x,.int .i64 kd] W (Qs0 H w W R)) :
  Calls Tryz.prog 117 #[vecV k b bn s i f c x] w (VecR H w R):=by
 have HL:=hD hle
 have HI:=hD hin
 have HS0:=hD (St.new w k b bn s i f c x)
 clear hle hin
 go_enter Tryz.func117,Tryz.ntmps117
 go_wp2_with fail
 obtain ⟨w0,hw0⟩:∃ w0,w0=(w.alloc (.cells #[.int .i64 k,b,.int .i64 bn,s,i,f,c,x] 39)).alloc (.cells zcells 39):=⟨_,rfl⟩
 rw [<- hw0] at HS0 ⊢
 clear hw0
 have hz0:=HS0.out.sz
 go_cut [3,4] from 5 (fun p ok wx=>ok= .bool true/\QoF H w R p wx)
 case first =>
  have hs0:=HS0.out.dr
  have hs00:=HS0.out
  go_region_held3 (fun W=>StC w W k b bn s i f c x/\St w W k b bn s i f c x)
   (first | with_reducible assumption | (with_reducible (refine sq_s ?_);repeat (first | with_reducible assumption | with_reducible refine St.dr ?_ | (with_reducible refine St.put ?_ (by first | assumption | omega | (simp;omega)) _) | with_reducible refine St.al ?_ _)))
   (first
    | (go_at_call 174;(with_reducible refine (HL.out _ ?_).mono ?_);exact St.bel (k:=k) (b:=b) (bn:=bn) (s:=s) (i:=i) (f:=f) (c:=c) (x:=x) (by repeat (first | with_reducible assumption | with_reducible refine St.dr ?_ | with_reducible refine St.al ?_ _));rintro e w1 ⟨rfl,hb1⟩;obtain ⟨hc1,hf1⟩:=bcell2 hb1;have hz1:=hb1.size;(first | (have hy1:w0.heap.size < w1.heap.size:=sqz1 hz1) | skip);have hst1:St w w1 k b bn s i f c x:=St.step (by repeat (first | with_reducible assumption | with_reducible refine St.dr ?_ | with_reducible refine St.al ?_ _)) hb1;have hg1:w.heap.size+2<=w1.heap.size:=hst1.sz;have HB1:=hD hb1;clear hb1)
    | (go_at_call 173;(with_reducible refine (HI.out _ ?_).mono ?_);exact St.bel (k:=k) (b:=b) (bn:=bn) (s:=s) (i:=i) (f:=f) (c:=c) (x:=x) (by repeat (first | with_reducible assumption | with_reducible refine St.dr ?_ | with_reducible refine St.al ?_ _));rintro e w2 ⟨k2,b2,bn2,s2,i2,f2,c2,x2,rfl,hk2,hb2⟩;obtain ⟨hc2,hf2⟩:=bcell2 hb2;have hz2:=hb2.size;have hst2:St w w2 k b bn s i f c x:=St.step (by repeat (first | with_reducible assumption | with_reducible refine St.dr ?_ | with_reducible refine St.al ?_ _)) hb2;have HB2:=hD hb2;have HK2:=hD hk2;clear hb2 hk2))
  all_goals
   go_wp2
   go_meet
   refine ⟨rfl,?_⟩
   first
    | (with_reducible exact QlQ (W:=w1) hg1 hst2 HK2.out)
    | (with_reducible exact Qho (W:=w1) hg1 hz0 hy1 (QqT HB2.out HB1.out) hst2 HK2.out)
    | (with_reducible exact Qho (W:=w1.alloc _) (Qs1 hg1 _) hg1 (Qs2 _ _) (QqS HB2.out) hst2 HK2.out)
 case rest =>
  obtain ⟨rfl,G,k2,b2,bn2,s2,i2,f2,c2,x2,rfl,hG,hGs,hR,hK,hB⟩:=hcut
  have HG:=hD hG
  have HR:=hD hR
  have HK:=hD hK
  have HB:=hD hB
  clear hG hR hK hB
  have HGS:=hD hGs
  clear hGs
  obtain ⟨⟨h0,h1,h2,h3,h4,h5,h6,h7⟩,hz⟩:=Qag HR.out
  obtain ⟨⟨g0,g1,g2,g3,g4,g5,g6,g7⟩,gz⟩:=Qag HG.out
  clear gz
  go_wp2
  refine bodyPost_ret (Qbp rfl _ _ _ rfl (Qad HR.out _ _ _ _ _ _ _ _)) rfl ?_
  exact ⟨k2,b2,bn2,s2,i2,f2,c2,x2,rfl,(HK.out.set8 (.inr ⟨by omega,by omega⟩) _ _ _ _ _ _ _ _).sub (fun _ _ e => .inl e),Qac HB.out (Nat.le_succ _) _ _ _ _ _ _ _ _⟩
theorem Qgz:(Tryz.prog.info? 2).map (fun i=>(i.zero,i.size,i.bytes))=some (some (.int .i64 0),1,8):=by kernel_rfl
theorem QlR (a:Option Addr) (c:Nat) (w:World) :
  Calls Tryz.prog 133 #[.slice a 0 c] w fun e w'=>∃ u,e= .returned (.tuple #[vecV 3 vnil 0 vnil u vnil vnil vnil,.bool true])/\Own1 w' w.heap.size 2 u (([]:List Int).map (.int .i64))/\Below w.heap.size w w':=by
 have HC:=hD (fun w2 (_:Below w.heap.size w w2)=>Qjr (w:=w2) (v := .slice a 0 c) (xs:=([]:List Int).map (.int .i64)) (.inl ⟨a,c,rfl,rfl⟩) (by simp) (by simp))
 go_enter Tryz.func133,Tryz.ntmps133
 go_wp2
 refine wp_loop_rounds 1 ?_
 rw [rounds_succ]
 go_wp2_with fail
 refine (HC.out _ (bel1 _ _)).mono ?_
 rintro e w1 ⟨u,rfl,ho,hb1⟩
 have HB1:=hD ((bel1 w _).trans (hb1.mono (bel1 w _).size))
 obtain ⟨h0,h1,h2,h3,h4,h5,h6,h7⟩:=(QaF w 39 0 vnil 0 vnil vnil vnil vnil vnil).below hb1
 have HK:=hD (Qar hb1)
 have hz:∀ j,w1.frozen? ⟨w.heap.size,j,none⟩=false:=fun j=>by rw [hb1.frozen (by simp)];exact Qch _ _ _ _
 have HNE:Hid (u.ownBlock≠some w.heap.size):=fun e=>by have:=(World.ownsRow.lt ho _ e).1;simp at this;omega
 have HO:=hD ho
 obtain ⟨a,n,c,hu⟩:∃ a n c,u= .slice a n c:=by obtain ⟨a,c,e⟩:=ho.reads.len;exact ⟨a,_,c,e⟩
 subst hu
 clear hb1 ho
 go_wp2
 refine bodyPost_ret (v := .tuple #[vecV 3 vnil 0 vnil (.slice a n c) vnil vnil vnil,.bool true]) ?_ rfl ⟨.slice a n c,rfl,Qcr (HO.out.lower (by simp)) HNE.out _ _ _ _ _ _ _ _,Qac HB1.out (Nat.le_refl _) _ _ _ _ _ _ _ _⟩
 exact Qas (fn:=Tryz.f133) (p:=2) (u:=3) rfl _ _ w.heap.size (by rfl) (Qad HK.out _ _ _ _ _ _ _ _)
theorem QgA {w:World}{v:Value}{l:List Int} (h:Reads1 w v (l.map (.int .i64))) (hl:l.length<=1000000) (hg:∀ x∈l,Good x) :
  Calls Tryz.prog 133 #[v] w fun e w'=>∃ u,e= .returned (.tuple #[vecV 3 vnil 0 vnil u vnil vnil vnil,.bool true])/\Own1 w' w.heap.size 2 u (l.map (.int .i64))/\Below w.heap.size w w':=by
 rcases h.at with ⟨a,c,rfl,h0⟩ | ⟨b,o,c,rfl,hc⟩
 ·have:=List.map_eq_nil_iff.1 h0
  subst this
  exact QlR a c w
 ·rw [List.length_map]
  exact QlP b o _ c l rfl hl w (fun i hi=>by have:=hc i (by simpa using hi);simpa using this) hg
def QkD (H:Nat->Prop) (w:World) (R:Value->World->Prop) (e:Ending) (w':World):Prop :=
 ∃ (k:Int) (b:Sl) (bn:Int) (s i f c x:Sl),e= .returned (.tuple #[vecW k b bn s i f c x,.bool true])/\Keeps H w' (R (vecW k b bn s i f c x))/\Below w.heap.size w w'
def Qaz (f:Int):Bool:=decide ((1<=f/\f<=8)\/(11<=f/\f<=16)\/(21<=f/\f<=24))
theorem Qs3 (f:Int) (w:World):Calls Tryz.prog 84 #[.int .i64 f] w fun e w'=>e= .returned (.bool (Qaz f))/\w=w':=by
 go_enter Tryz.func84,Tryz.ntmps84
 go_wp2
 all_goals go_ret
 all_goals refine ⟨?_,rfl⟩
 all_goals unfold Qaz
 all_goals refine congrArg (fun b=>Ending.returned (.bool b)) ?_
 all_goals rw [Bool.eq_iff_iff]
 all_goals first | (simp;done) | (simp;omega)
theorem Qby (f:Int) (w:World):Calls Tryz.prog 71 #[.int .i64 f] w fun e w'=>e= .returned (.bool (Qaz f))/\w=w':=by
 go_enter Tryz.func71,Tryz.ntmps71
 go_wp2
 all_goals go_ret
 all_goals refine ⟨?_,rfl⟩
 all_goals unfold Qaz
 all_goals refine congrArg (fun b=>Ending.returned (.bool b)) ?_
 all_goals rw [Bool.eq_iff_iff]
 all_goals first | (simp;done) | (simp;omega)
theorem QoG (b:Value) (bn:Int) (s i f x:Value){w:World}{v:Value}{l:List Int} (h:Reads1 w v (l.map (.int .i32))) (hl:l.length<=1000000) :
  Calls Tryz.prog 136 #[vecV 5 b bn s i f v x] w fun e w'=>∃ u,e= .returned u/\Own1 w' w.heap.size 21 u (l.map (.int .i32))/\Below w.heap.size w w':=by
 have HC:=hD (fun w2 (hb:Below w.heap.size w w2)=>QlO (h.below hb) (by rw [List.length_map];omega) (by intro u hu;obtain ⟨z,_,rfl⟩:=List.mem_map.1 hu;rfl))
 clear h
 go_enter Tryz.func136,Tryz.ntmps136
 go_wp2_with fail
 refine (HC.out _ (bel1 _ _)).mono ?_
 rintro e w1 ⟨u,rfl,ho,hb1⟩
 have HB1:=hD ((bel1 w _).trans (hb1.mono (bel1 w _).size))
 have HO:=hD ho
 clear hb1 ho
 go_wp2
 go_ret
 exact ⟨_,rfl,HO.out.lower (by simp),HB1.out⟩
theorem QgB {B:Nat}{a w:World} (h:Below B a w) (k:Nat):Below B a (w.drewN k):=⟨h.os,h.tape,h.output,h.size,h.block⟩
theorem Qhp:(Tryz.prog.info? 33).map (·.size)=some 2:=by kernel_rfl
theorem QbI {fn:Func}{p u:Tmp} (h:fn.results=#[.cell p 33,.tmp u]) (tmps:Array Value) (w:World) (G:Nat){e:TypeId}{a0 a1:Value}
  (hp:tmps.getD p undef= .pointer (some ⟨G,0,none⟩)) (hg:w.heap[G]?=some (.cells #[a0,a1] e)) :
  (results fn tmps).run Tryz.prog w= .ok (.tuple #[.agg #[a0,a1],tmps.getD u undef]) w:=by
 rw [results_cell_tmp h,hp]
 have:=run_loadVar_row (P:=Tryz.prog) w G e 33 _ (0,0) _ hg Tryz.underlying33 rfl Qhp
 simp [asAddr,Result.andThen,this]
theorem QeY (k:Int) (hk:k≠1) (b:Value) (bn:Int) (s i f c x:Value) (w:World) :
  Calls Tryz.prog 28 #[vecV k b bn s i f c x] w fun e w'=>e= .returned (.tuple #[.agg #[vnil,.int .i64 0],.bool false])/\Below w.heap.size w w':=by
 have hk1:(k != 1)=true:=by simpa using hk
 go_enter Tryz.func28,Tryz.ntmps28
 go_wp2
 refine bodyPost_ret (v := .tuple #[.agg #[vnil,.int .i64 0],.bool false]) ?_ rfl ⟨rfl,bel2 _ _ _⟩
 exact QbI (fn:=Tryz.f28) (p:=2) (u:=3) rfl _ _ (w.heap.size+1) (by rfl) (by have h:=heap_alloc_new (w.alloc (.cells #[.int .i64 k,b,.int .i64 bn,s,i,f,c,x] 39)) (.cells #[.slice none 0 0,.int .i64 0] 33);simpa using h)
def Qde (H:Nat->Prop) (w:World) (R:Value->World->Prop) (e:Ending) (w':World):Prop :=
 ∃ (k:Int) (b:Sl) (bn:Int) (s i f c x:Sl),e= .returned (.tuple #[vecW k b bn s i f c x,.int .i64 0])/\Keeps H w' (R (vecW k b bn s i f c x))/\Below w.heap.size w w'
theorem Qah {n:Int} (h:Good n):n.natAbs<=9007199254740992:=by obtain ⟨h1,h2⟩:=h;omega
theorem fi_zero:fi 0=0:=by decide
theorem Qdt (n:Int):sg (decide (n < 0)) n.natAbs=n:=by
 unfold sg
 by_cases h:n < 0
 ·simp [h];omega
 ·simp [h];omega
theorem Qbq (n:Int) (h:Good n) (w:World):Calls Tryz.prog 235 #[.float .f64 (fi n)] w fun e w'=>e= .returned (.tuple #[.int .i64 n,.bool true])/\w=w':=by
 have:=Qkq (decide (n < 0)) n.natAbs (Qah h) w
 rw [Qdt,<- fi_W n (Qah h)] at this
 exact this
theorem QoH (s:Bool):floatBits .quo .f64 4607182418800017408 (W s 0)=some (infw s):=by cases s <;> decide+kernel
theorem Qjw (s:Bool){Z:Nat} (hz:Rep Z):FloatKind.f64.format.order (W s Z) (W s Z)=some .eq:=by
 have:=Qbn s s hz hz
 rw [Qb0] at this
 exact this
theorem QkE (s:Bool){Z:Nat} (hz:Rep Z) (w:World) :
  Calls Tryz.prog 169 #[.float .f64 (W s Z),.float .f64 (W s Z)] w fun e w'=>e= .returned (.bool true)/\w=w':=by
 have h1:=Qjw s hz
 have h2:=QdW s false hz QbD
 rw [W_zero,Qbx] at h2
 by_cases h0:Z=0
 ·subst h0
  rw [Qbx,decide_eq_true rfl] at h2
  have h2':FloatKind.f64.format.order (W s 0) 0=some .eq:=by simpa using h2
  have h3:=Qhg s
  have h4:=fun w=>run_float_arith (P:=Tryz.prog) w .quo 60 .f64 _ _ _ (QoH s)
  clear hz h2
  generalize W s 0=b at *
  go_enter Tryz.func169,Tryz.ntmps169
  go_wp2
  go_ret
  exact ⟨rfl,rfl⟩
 ·rw [decide_eq_false (by rw [sg_eq_zero];exact h0)] at h2
  have h2':=beq_eq_false_iff_ne.1 h2
  have h2n:(FloatKind.f64.format.order (W s Z) 0 != some .eq)=true:=by rw [bne,h2];rfl
  clear hz h0
  generalize W s Z=b at *
  go_enter Tryz.func169,Tryz.ntmps169
  go_wp2
  go_ret
  exact ⟨rfl,rfl⟩
theorem Qbg {w:World}{v:Value}{n:Nat}{F:Nat->Value} (h:Reads1 w v ((List.range n).map F)):∃ a c,v= .slice a n c/\∀ j,j < n->∃ b o,a=some ⟨b,o,none⟩/\w.cell? ⟨b,o+j,none⟩=some (F j):=by
 rcases h with ⟨a,c,rfl,h0⟩ | ⟨b,o,m,c,rfl,hn,hc⟩
 ·have hn:n=0:=by simpa using h0
  subst hn
  exact ⟨a,c,rfl,fun j hj=>by omega⟩
 ·have hm:m=n:=by simpa using hn
  subst hm
  refine ⟨_,c,rfl,fun j hj=>⟨b,o,rfl,?_⟩⟩
  rw [hc j (by simpa using hj)]
  simp
def Small8 (n:Nat) (l:Nat->Int) (u:Value) (W:World):Prop:=∃ s,u=vecV 2 vnil 0 s vnil vnil vnil vnil/\Reads1 W s ((List.range n).map fun j => .int .i8 (l j))
theorem Qjx {a b:Int} (ha:Good a) (hb:Good b) (h:fi a=fi b):a=b:=by
 have h1:=Qey a b (Qah ha) (Qah hb)
 have h2:=Qey b b (Qah hb) (Qah hb)
 rw [h] at h1
 rw [h1,Qb0] at h2
 rcases Int.lt_trichotomy a b with h3 | h3 | h3
 ·rw [QbL h3] at h2;cases h2
 ·exact h3
 ·rw [QbH h3] at h2;cases h2
theorem QgC {n:Int} (h:Good n):TF (fi n):=by
 refine ⟨decide (n < 0),n.natAbs*2^K,Qcc n (Qah h),fi_W n (Qah h),fun e=>?_⟩
 have:n.natAbs=0:=by
  rcases Nat.mul_eq_zero.1 e with e | e
  ·exact e
  ·exact absurd e (Nat.ne_of_gt (Nat.two_pow_pos K))
 have:n=0:=by omega
 rw [this];rfl
open Classical in
noncomputable def wholeP (b:Nat):Option Int:=if h:∃ n,Good n/\b=fi n then some h.choose else none
theorem QcH {n:Int} (h:Good n):wholeP (fi n)=some n:=by
 have he:∃ m,Good m/\fi n=fi m:=⟨n,h,rfl⟩
 unfold wholeP
 rw [dif_pos he]
 exact congrArg some (Qjx he.choose_spec.1 h he.choose_spec.2.symm)
theorem Qbz {b:Nat}{n:Int} (h:wholeP b=some n):Good n/\b=fi n:=by
 unfold wholeP at h
 split at h
 ·rename_i he
  injection h with h
  subst h
  exact he.choose_spec
 ·cases h
theorem QaS {b:Nat} (h:TF b):(∃ n,Good n/\b=fi n/\wholeP b=some n)\/(wholeP b=none/\∃ s Z,Rep Z/\b=W s Z/\¬ QeU Z):=by
 by_cases he:∃ n,Good n/\b=fi n
 ·obtain ⟨n,h1,rfl⟩:=he
  exact .inl ⟨n,h1,rfl,QcH h1⟩
 ·refine .inr ⟨by unfold wholeP;rw [dif_neg he],?_⟩
  obtain ⟨s,Z,hz,rfl,h0⟩:=h
  refine ⟨s,Z,hz,rfl,fun ⟨m,hm,e⟩=>he ⟨sg s m,?_,?_⟩⟩
  ·have:=QbT s m
   exact ⟨by omega,by omega⟩
  ·have hg:Good (sg s m):=by have:=QbT s m;exact ⟨by omega,by omega⟩
   rw [fi_W _ (Qah hg),QbT,e]
   by_cases hm0:m=0
   ·subst hm0
    rw [Nat.zero_mul] at e ⊢
    rw [h0 e,Qbx]
    rfl
   ·congr 1
    rw [Bool.eq_iff_iff,decide_eq_true_eq,Qkp]
    exact ⟨fun h=>⟨h,hm0⟩,fun h=>h.1⟩
theorem Qiy (s:Bool) (m:Nat) (hm:m<=9007199254740992) (w:World) :
  Calls Tryz.prog 215 #[.float .f64 (W s (m*2^K))] w fun e w'=>e= .returned (.bool true)/\w=w':=by
 have hz:Rep (m*2^K):=Qdb K hm (by unfold K;omega)
 obtain ⟨h1,h2,h3,h4⟩:=QbU s hz (Nat.mul_le_mul_right _ hm)
 rw [Nat.mul_div_cancel _ Qop] at h3 h4
 rw [decide_eq_true rfl] at h4
 generalize W s (m*2^K)=b at *
 have h1':=h1
 have h2':=h2
 simp only [Bool.or_eq_true,beq_iff_eq] at h1' h2'
 clear hz hm
 go_enter Tryz.func215,Tryz.ntmps215
 go_wp2
 go_ret
 exact ⟨rfl,rfl⟩
theorem Qd1 (s:Bool){Z:Nat} (hz:Rep Z) (h:¬ QeU Z) (w:World) :
  Calls Tryz.prog 215 #[.float .f64 (W s Z)] w fun e w'=>e= .returned (.bool false)/\w=w':=by
 by_cases hle:Z<=9007199254740992*2^K
 ·obtain ⟨h1,h2,h3,h4⟩:=QbU s hz hle
  rw [decide_eq_false (fun e=>h ⟨Z / 2^K,QeV hle,e.symm⟩)] at h4
  generalize W s Z=b at *
  generalize sg s (Z / 2^K)=n at *
  have h1':=h1
  have h2':=h2
  simp only [Bool.or_eq_true,beq_iff_eq] at h1' h2'
  have h4':=beq_eq_false_iff_ne.1 h4
  clear hz h hle
  go_enter Tryz.func215,Tryz.ntmps215
  go_wp2
  go_ret
  exact ⟨rfl,rfl⟩
 ·obtain ⟨h1,h2⟩:=Qhj s hz hle
  cases s
  ·obtain ⟨h2,h3⟩:=h2 rfl
   clear h1 hle h hz
   go_enter Tryz.func215,Tryz.ntmps215
   go_wp2
   go_ret
   exact ⟨rfl,rfl⟩
  ·have h1:=h1 rfl
   clear h2 hle h hz
   go_enter Tryz.func215,Tryz.ntmps215
   go_wp2
   go_ret
   exact ⟨rfl,rfl⟩
theorem Qci (n:Int) (h:Good n) (w:World):Calls Tryz.prog 215 #[.float .f64 (fi n)] w fun e w'=>e= .returned (.bool true)/\w=w':=by
 have:=Qiy (decide (n < 0)) n.natAbs (Qah h) w
 rw [<- fi_W n (Qah h)] at this
 exact this
theorem QgD (n:Int) (h:Good n) (w:World):(convert 60 2 (.float .f64 (fi n))).run Tryz.prog w= .ok (.int .i64 n) w:=by
 have h1:=(QbU (decide (n < 0)) (Qcc n (Qah h)) (Nat.mul_le_mul_right _ (Qah h))).conv w
 rw [Nat.mul_div_cancel _ Qop,Qdt,<- fi_W n (Qah h)] at h1
 exact h1
def Qdu (a b:Int):Int:=if a=0 then b else if b.tmod a≠0/\(decide (b.tmod a < 0) != decide (a < 0))=true then b.tmod a+a else b.tmod a
theorem Qiz (a b:Int):(b.tmod a).natAbs<=b.natAbs:=by
 rw [Int.natAbs_tmod]
 exact Nat.mod_le _ _
theorem QgE (a b:Int) (h:a≠0):(b.tmod a).natAbs < a.natAbs:=by
 rw [Int.natAbs_tmod]
 exact Nat.mod_lt _ (by omega)
theorem QkF {a b:Int} (ha:Good a) (hb:Good b):Good (Qdu a b):=by
 obtain ⟨a1,a2⟩:=ha
 obtain ⟨b1,b2⟩:=hb
 unfold Qdu
 split
 ·exact ⟨b1,b2⟩
 ·rename_i h0
  have h1:=Qiz a b
  have h2:=QgE a b h0
  split
  ·rename_i h3
   obtain ⟨h3,h4⟩:=h3
   refine ⟨?_,?_⟩ <;> (by_cases c1:b.tmod a < 0 <;> by_cases c2:a < 0 <;> simp [c1,c2] at h4 <;> omega)
  ·exact ⟨by omega,by omega⟩
theorem QiA (a b:Int) (ha:Good a) (hb:Good b) (w:World):Calls Tryz.prog 203 #[.int .i64 a,.int .i64 b] w fun e w'=>e= .returned (.int .i64 (Qdu a b))/\w=w':=by
 obtain ⟨a1,a2⟩:=ha
 obtain ⟨b1,b2⟩:=hb
 by_cases h0:a=0
 ·have HR:Hid (Qdu a b=b):=if_pos h0
  have e0:(a==0)=true:=by simpa using h0
  clear h0
  go_enter Tryz.func203,Tryz.ntmps203
  go_wp2
  go_ret
  exact ⟨by rw [HR.out];rfl,rfl⟩
 ·have HR:Hid (Qdu a b=if b.tmod a≠0/\(decide (b.tmod a < 0) != decide (a < 0))=true then b.tmod a+a else b.tmod a):=if_neg h0
  have h1:=Qiz a b
  have h2:=QgE a b h0
  have e0:(a==0)=false:=by simpa using h0
  have e1:¬ a=0:=h0
  by_cases hc:b.tmod a≠0/\(decide (b.tmod a < 0) != decide (a < 0))=true
  ·rw [if_pos hc] at HR
   obtain ⟨c1,c2⟩:=hc
   have c1':(b.tmod a != 0)=true:=by simpa using c1
   have c2':(!(decide (b.tmod a < 0)==decide (a < 0)))=true:=c2
   go_enter Tryz.func203,Tryz.ntmps203
   go_wp2
   go_ret
   exact ⟨by rw [HR.out];rfl,rfl⟩
  ·rw [if_neg hc] at HR
   by_cases c1:b.tmod a=0
   ·have c1':(b.tmod a != 0)=false:=by simpa using c1
    clear hc c1
    go_enter Tryz.func203,Tryz.ntmps203
    go_wp2
    go_ret
    exact ⟨by rw [HR.out];rfl,rfl⟩
   ·have c1':(b.tmod a != 0)=true:=by simpa using c1
    have c2:(decide (b.tmod a < 0) != decide (a < 0))=false:=by
     cases hd:(decide (b.tmod a < 0) != decide (a < 0)) with
     | false=>rfl
     | true=>exact absurd ⟨c1,hd⟩ hc
    have c2':(!(decide (b.tmod a < 0)==decide (a < 0)))=false:=c2
    clear hc
    go_enter Tryz.func203,Tryz.ntmps203
    go_wp2
    go_ret
    exact ⟨by rw [HR.out];rfl,rfl⟩
noncomputable def Qd2 (a b:Nat):Nat×Int:=match wholeP a,wholeP b with
 | some x,some y=>(fi (Qdu x y),0)
 | _,_=>(0,24)
theorem Qjy {a b:Nat}{x y:Int} (ha:wholeP a=some x) (hb:wholeP b=some y):Qd2 a b=(fi (Qdu x y),0):=by unfold Qd2;rw [ha,hb]
theorem QeA {a b:Nat} (h:wholeP a=none\/wholeP b=none):Qd2 a b=(0,24):=by
 unfold Qd2
 rcases h with h | h
 ·rw [h]
 ·rw [h];cases wholeP a <;> rfl
theorem QlS (a b:Nat) (ha:TF a) (hb:TF b) (w:World):Calls Tryz.prog 210 #[.float .f64 a,.float .f64 b] w fun e w'=>e= .returned (.tuple #[.float .f64 (Qd2 a b).1,.int .i64 (Qd2 a b).2])/\w=w':=by
 rcases QaS ha with ⟨x,hx,rfl,ex⟩ | ⟨ex,s,Z,hz,rfl,hn⟩
 ·rcases QaS hb with ⟨y,hy,rfl,ey⟩ | ⟨ey,t,Y,hy,rfl,hm⟩
  ·rw [Qjy ex ey]
   have HA:=hD (fun W=>Qbq x hx W)
   have HB:=hD (fun W=>Qbq y hy W)
   have HR:=hD (fun W=>QiA x y hx hy W)
   clear ha hb hx hy ex ey
   generalize Qdu x y=r at *
   go_enter Tryz.func210,Tryz.ntmps210
   go_wp2_with fail
   refine (HA.out _).mono ?_
   rintro e w' ⟨rfl,rfl⟩
   go_wp2_with fail
   refine (HB.out _).mono ?_
   rintro e w' ⟨rfl,rfl⟩
   go_wp2_with fail
   refine (HR.out _).mono ?_
   rintro e w' ⟨rfl,rfl⟩
   go_wp2
   go_ret2
   exact ⟨rfl,rfl⟩
  ·rw [QeA (.inr ey)]
   have HA:=hD (fun W=>Qbq x hx W)
   have HB:=hD (fun W=>Qcb t hy hm W)
   clear ha hb hx hy ex ey hm
   go_enter Tryz.func210,Tryz.ntmps210
   go_wp2_with fail
   refine (HA.out _).mono ?_
   rintro e w' ⟨rfl,rfl⟩
   go_wp2_with fail
   refine (HB.out _).mono ?_
   rintro e w' ⟨⟨n,rfl⟩,rfl⟩
   go_wp2
   go_ret2
   exact ⟨rfl,rfl⟩
 ·rw [QeA (.inl ex)]
  have HA:=hD (fun W=>Qcb s hz hn W)
  have HB:Hid (∃ (m:Int) (t:Bool),∀ W,Calls Tryz.prog 235 #[.float .f64 b] W fun e w'=>(∃ m:Int,e= .returned (.tuple #[.int .i64 m,.bool t]))/\W=w'):=by
   rcases QaS hb with ⟨y,hy,rfl,ey⟩ | ⟨ey,t,Y,hy,rfl,hm⟩
   ·exact ⟨y,true,fun W=>(Qbq y hy W).mono fun e w' ⟨h1,h2⟩=>⟨⟨y,h1⟩,h2⟩⟩
   ·exact ⟨(0:Int),false,fun W=>Qcb t hy hm W⟩
  obtain ⟨_,t,hB⟩:=HB.out
  have HB2:=hD hB
  clear ha hb hz hn ex HB hB
  go_enter Tryz.func210,Tryz.ntmps210
  go_wp2_with fail
  refine (HA.out _).mono ?_
  rintro e w' ⟨⟨n,rfl⟩,rfl⟩
  go_wp2_with fail
  refine (HB2.out _).mono ?_
  rintro e w' ⟨⟨n,rfl⟩,rfl⟩
  go_wp2
  go_ret2
  exact ⟨rfl,rfl⟩
theorem QlT (a r:Int) (h:a≠0):(r≠0/\(decide (r < 0) != decide (a < 0))=true)↔(r < 0/\0 < a\/0 < r/\a < 0):=by
 by_cases c1:r < 0 <;> by_cases c2:a < 0 <;> simp [c1,c2] <;> omega
theorem QqU (a b:Int):b - b.tdiv a*a=b.tmod a:=by
 have:=Int.tmod_add_mul_tdiv b a
 rw [Int.mul_comm] at this
 omega
theorem QlU (a b:Int) (ha:Good a) (hb:Good b) (w:World):Calls Tryz.prog 239 #[.int .i64 a,.int .i64 b] w fun e w'=>e= .returned (.int .i64 (Qdu a b))/\w=w':=by
 obtain ⟨a1,a2⟩:=ha
 obtain ⟨b1,b2⟩:=hb
 by_cases h0:a=0
 ·have HR:Hid (Qdu a b=b):=if_pos h0
  have e0:(a==0)=true:=by simpa using h0
  clear h0
  go_enter Tryz.func239,Tryz.ntmps239
  go_wp2
  go_ret
  exact ⟨by rw [HR.out];rfl,rfl⟩
 ·by_cases hm1:a=-1
  ·have HR:Hid (Qdu a b=0):=by
    have e:b.tmod a=0:=by rw [hm1];simp
    show (if a=0 then b else _)=0
    rw [if_neg h0,e]
    simp
   have e0:(a==0)=false:=by simpa using h0
   have e1:(a==-1)=true:=by simpa using hm1
   clear h0 hm1
   go_enter Tryz.func239,Tryz.ntmps239
   go_wp2
   go_ret
   exact ⟨by rw [HR.out];rfl,rfl⟩
  ·have e0:(a==0)=false:=by simpa using h0
   have e1:(a==-1)=false:=by simpa using hm1
   have e2:¬ a=0:=h0
   have hq:(b.tdiv a).natAbs<=b.natAbs:=by rw [Int.natAbs_tdiv];exact Nat.div_le_self _ _
   have h1:=Qiz a b
   have h2:=QgE a b h0
   have hqm:b.tdiv a*a=b - b.tmod a:=by have:=QqU a b;omega
   obtain ⟨P,hP⟩:∃ P,P=b.tdiv a*a:=⟨_,rfl⟩
   have hPr:b.tdiv a*a=P:=hP.symm
   have hPb1:-18014398509481984<=P:=by omega
   have hPb2:P<=18014398509481984:=by omega
   have hsub:b - P=b.tmod a:=by omega
   have HR:Hid (Qdu a b=if b.tmod a≠0/\(decide (b.tmod a < 0) != decide (a < 0))=true then b.tmod a+a else b.tmod a):=if_neg h0
   generalize b.tmod a=r at *
   have HR2:Hid (Qdu a b=if (r < 0/\0 < a\/0 < r/\a < 0) then r+a else r):=by
    show _=_
    rw [HR.out]
    by_cases hc:(r < 0/\0 < a\/0 < r/\a < 0)
    ·rw [if_pos hc,if_pos ((QlT a r h0).2 hc)]
    ·rw [if_neg hc,if_neg (fun h=>hc ((QlT a r h0).1 h))]
   clear hqm hP hm1 HR
   go_enter Tryz.func239,Tryz.ntmps239
   go_wp2
   all_goals go_ret
   all_goals refine ⟨?_,rfl⟩
   all_goals rw [HR2.out]
   all_goals first | (rw [if_pos (by omega)];rfl) | (rw [if_neg (by omega)];rfl)
def cmpF (a b:Nat):Ordering:=(Ieee.double.order a b).getD .eq
theorem QbE {a b:Nat} (ha:TF a) (hb:TF b):FloatKind.f64.format.order a b=some (cmpF a b):=by
 obtain ⟨s,Z,hz,rfl,_⟩:=ha
 obtain ⟨t,Y,hy,rfl,_⟩:=hb
 show Ieee.double.order _ _=_
 unfold cmpF
 rw [Qbn s t hz hy]
 rfl
theorem QeZ {a b:Nat} (ha:TF a) (hb:TF b):cmpF b a=(cmpF a b).swap:=by
 obtain ⟨s,Z,hz,rfl,_⟩:=ha
 obtain ⟨t,Y,hy,rfl,_⟩:=hb
 unfold cmpF
 rw [Qbn s t hz hy,Qbn t s hy hz]
 show compare _ _=(compare _ _).swap
 rcases Int.lt_trichotomy (sg s Z) (sg t Y) with h | h | h
 ·rw [QbL h,QbH h];rfl
 ·rw [h,Qb0];rfl
 ·rw [QbL h,QbH h];rfl
theorem QlV {a b:Int} (ha:Good a) (hb:Good b):cmpF (fi a) (fi b)=compare a b:=by
 unfold cmpF
 rw [Qey a b (Qah ha) (Qah hb)]
 rfl
def maxP (a b:Nat):Nat:=if cmpF a b= .lt then b else a
def minP (a b:Nat):Nat:=if cmpF a b= .gt then b else a
theorem QqV {a b:Nat} (ha:TF a) (hb:TF b):TF (maxP a b):=by unfold maxP;split <;> assumption
theorem QqW {a b:Nat} (ha:TF a) (hb:TF b):TF (minP a b):=by unfold minP;split <;> assumption
theorem QoI (a b:Nat) (ha:TF a) (hb:TF b) (w:World):Calls Tryz.prog 208 #[.float .f64 a,.float .f64 b] w fun e w'=>e= .returned (.float .f64 (maxP a b))/\w=w':=by
 have h1:=QbE ha hb
 have h2:=QbE hb ha
 rw [QeZ ha hb] at h2
 unfold maxP
 clear ha hb
 cases hc:cmpF a b
 all_goals
  rw [hc] at h1 h2
  clear hc
  simp only [Ordering.swap] at h2
  go_enter Tryz.func208,Tryz.ntmps208
  go_wp2
  go_ret
  exact ⟨rfl,rfl⟩
theorem QoJ (a b:Nat) (ha:TF a) (hb:TF b) (w:World):Calls Tryz.prog 209 #[.float .f64 a,.float .f64 b] w fun e w'=>e= .returned (.float .f64 (minP a b))/\w=w':=by
 have h1:=QbE ha hb
 have h2:=QbE hb ha
 rw [QeZ ha hb] at h2
 unfold minP
 clear ha hb
 cases hc:cmpF a b
 all_goals
  rw [hc] at h1 h2
  clear hc
  simp only [Ordering.swap] at h2
  go_enter Tryz.func209,Tryz.ntmps209
  go_wp2
  go_ret
  exact ⟨rfl,rfl⟩
theorem QqX (a b:Nat) (ha:TF a) (hb:TF b) (w:World):Calls Tryz.prog 147 #[.int .i64 1,.float .f64 a,.float .f64 b] w fun e w'=>e= .returned (.tuple #[.float .f64 (Qau (opB .add a b)).1,.int .i64 (Qau (opB .add a b)).2])/\w=w':=by
 have HC:=hD (fun W=>Qor a b ha hb W)
 clear ha hb
 generalize Qau (opB .add a b)=d at *
 go_enter Tryz.func147,Tryz.ntmps147
 go_wp2_with fail
 refine (HC.out _).mono ?_
 rintro e w' ⟨rfl,rfl⟩
 go_wp2
 go_ret2
 exact ⟨rfl,rfl⟩
theorem QqY (a b:Nat) (ha:TF a) (hb:TF b) (w:World):Calls Tryz.prog 179 #[.int .i64 1,.float .f64 a,.float .f64 b] w fun e w'=>e= .returned (.tuple #[.float .f64 (Qau (opB .add a b)).1,.int .i64 (Qau (opB .add a b)).2])/\w=w':=by
 have HC:=hD (fun W=>Qkv a b ha hb W)
 clear ha hb
 generalize Qau (opB .add a b)=d at *
 go_enter Tryz.func179,Tryz.ntmps179
 go_wp2_with fail
 refine (HC.out _).mono ?_
 rintro e w' ⟨rfl,rfl⟩
 go_wp2
 go_ret2
 exact ⟨rfl,rfl⟩
theorem QqZ (a b:Nat) (ha:TF a) (hb:TF b) (w:World):Calls Tryz.prog 147 #[.int .i64 2,.float .f64 a,.float .f64 b] w fun e w'=>e= .returned (.tuple #[.float .f64 (Qau (opB .sub a b)).1,.int .i64 (Qau (opB .sub a b)).2])/\w=w':=by
 have HC:=hD (fun W=>Qos a b ha hb W)
 clear ha hb
 generalize Qau (opB .sub a b)=d at *
 go_enter Tryz.func147,Tryz.ntmps147
 go_wp2_with fail
 refine (HC.out _).mono ?_
 rintro e w' ⟨rfl,rfl⟩
 go_wp2
 go_ret2
 exact ⟨rfl,rfl⟩
theorem Qq0 (a b:Nat) (ha:TF a) (hb:TF b) (w:World):Calls Tryz.prog 179 #[.int .i64 2,.float .f64 a,.float .f64 b] w fun e w'=>e= .returned (.tuple #[.float .f64 (Qau (opB .sub a b)).1,.int .i64 (Qau (opB .sub a b)).2])/\w=w':=by
 have HC:=hD (fun W=>Qkw a b ha hb W)
 clear ha hb
 generalize Qau (opB .sub a b)=d at *
 go_enter Tryz.func179,Tryz.ntmps179
 go_wp2_with fail
 refine (HC.out _).mono ?_
 rintro e w' ⟨rfl,rfl⟩
 go_wp2
 go_ret2
 exact ⟨rfl,rfl⟩
theorem Qq1 (a b:Nat) (ha:TF a) (hb:TF b) (w:World):Calls Tryz.prog 147 #[.int .i64 3,.float .f64 a,.float .f64 b] w fun e w'=>e= .returned (.tuple #[.float .f64 (Qau (opB .mul a b)).1,.int .i64 (Qau (opB .mul a b)).2])/\w=w':=by
 have HC:=hD (fun W=>Qot a b ha hb W)
 clear ha hb
 generalize Qau (opB .mul a b)=d at *
 go_enter Tryz.func147,Tryz.ntmps147
 go_wp2_with fail
 refine (HC.out _).mono ?_
 rintro e w' ⟨rfl,rfl⟩
 go_wp2
 go_ret2
 exact ⟨rfl,rfl⟩
theorem Qq2 (a b:Nat) (ha:TF a) (hb:TF b) (w:World):Calls Tryz.prog 179 #[.int .i64 3,.float .f64 a,.float .f64 b] w fun e w'=>e= .returned (.tuple #[.float .f64 (Qau (opB .mul a b)).1,.int .i64 (Qau (opB .mul a b)).2])/\w=w':=by
 have HC:=hD (fun W=>Qkx a b ha hb W)
 clear ha hb
 generalize Qau (opB .mul a b)=d at *
 go_enter Tryz.func179,Tryz.ntmps179
 go_wp2_with fail
 refine (HC.out _).mono ?_
 rintro e w' ⟨rfl,rfl⟩
 go_wp2
 go_ret2
 exact ⟨rfl,rfl⟩
theorem Qq3 (a b:Nat) (ha:TF a) (hb:TF b) (w:World):Calls Tryz.prog 147 #[.int .i64 4,.float .f64 a,.float .f64 b] w fun e w'=>e= .returned (.tuple #[.float .f64 (divP a b).1,.int .i64 (divP a b).2])/\w=w':=by
 have HC:=hD (fun W=>Qou a b ha hb W)
 clear ha hb
 generalize divP a b=d at *
 go_enter Tryz.func147,Tryz.ntmps147
 go_wp2_with fail
 refine (HC.out _).mono ?_
 rintro e w' ⟨rfl,rfl⟩
 go_wp2
 go_ret2
 exact ⟨rfl,rfl⟩
theorem Qq4 (a b:Nat) (ha:TF a) (hb:TF b) (w:World):Calls Tryz.prog 179 #[.int .i64 4,.float .f64 a,.float .f64 b] w fun e w'=>e= .returned (.tuple #[.float .f64 (divP a b).1,.int .i64 (divP a b).2])/\w=w':=by
 have HC:=hD (fun W=>Qky a b ha hb W)
 clear ha hb
 generalize divP a b=d at *
 go_enter Tryz.func179,Tryz.ntmps179
 go_wp2_with fail
 refine (HC.out _).mono ?_
 rintro e w' ⟨rfl,rfl⟩
 go_wp2
 go_ret2
 exact ⟨rfl,rfl⟩
theorem Qq5 (a b:Nat) (ha:TF a) (hb:TF b) (w:World):Calls Tryz.prog 147 #[.int .i64 5,.float .f64 a,.float .f64 b] w fun e w'=>e= .returned (.tuple #[.float .f64 (maxP a b),.int .i64 0])/\w=w':=by
 have HC:=hD (fun W=>QoI a b ha hb W)
 clear ha hb
 generalize maxP a b=d at *
 go_enter Tryz.func147,Tryz.ntmps147
 go_wp2_with fail
 refine (HC.out _).mono ?_
 rintro e w' ⟨rfl,rfl⟩
 go_wp2
 go_ret2
 exact ⟨rfl,rfl⟩
theorem Qq6 (a b:Nat) (ha:TF a) (hb:TF b) (w:World):Calls Tryz.prog 179 #[.int .i64 5,.float .f64 a,.float .f64 b] w fun e w'=>e= .returned (.tuple #[.float .f64 (maxP a b),.int .i64 0])/\w=w':=by
 have h1:=QbE ha hb
 unfold maxP
 clear ha hb
 cases hc:cmpF a b
 all_goals
  rw [hc] at h1
  clear hc
  go_enter Tryz.func179,Tryz.ntmps179
  go_wp2
  go_ret2
  exact ⟨rfl,rfl⟩
theorem Qq7 (a b:Nat) (ha:TF a) (hb:TF b) (w:World):Calls Tryz.prog 147 #[.int .i64 6,.float .f64 a,.float .f64 b] w fun e w'=>e= .returned (.tuple #[.float .f64 (minP a b),.int .i64 0])/\w=w':=by
 have HC:=hD (fun W=>QoJ a b ha hb W)
 clear ha hb
 generalize minP a b=d at *
 go_enter Tryz.func147,Tryz.ntmps147
 go_wp2_with fail
 refine (HC.out _).mono ?_
 rintro e w' ⟨rfl,rfl⟩
 go_wp2
 go_ret2
 exact ⟨rfl,rfl⟩
theorem Qq8 (a b:Nat) (ha:TF a) (hb:TF b) (w:World):Calls Tryz.prog 179 #[.int .i64 6,.float .f64 a,.float .f64 b] w fun e w'=>e= .returned (.tuple #[.float .f64 (minP a b),.int .i64 0])/\w=w':=by
 have h1:=QbE ha hb
 unfold minP
 clear ha hb
 cases hc:cmpF a b
 all_goals
  rw [hc] at h1
  clear hc
  go_enter Tryz.func179,Tryz.ntmps179
  go_wp2
  go_ret2
  exact ⟨rfl,rfl⟩
theorem Qq9 (a b:Nat) (ha:TF a) (hb:TF b) (w:World):Calls Tryz.prog 147 #[.int .i64 7,.float .f64 a,.float .f64 b] w fun e w'=>e= .returned (.tuple #[.float .f64 (Qd2 a b).1,.int .i64 (Qd2 a b).2])/\w=w':=by
 have HC:=hD (fun W=>QlS a b ha hb W)
 clear ha hb
 generalize Qd2 a b=d at *
 go_enter Tryz.func147,Tryz.ntmps147
 go_wp2_with fail
 refine (HC.out _).mono ?_
 rintro e w' ⟨rfl,rfl⟩
 go_wp2
 go_ret2
 exact ⟨rfl,rfl⟩
theorem Qra (a b:Nat) (ha:TF a) (hb:TF b) (w:World):Calls Tryz.prog 179 #[.int .i64 7,.float .f64 a,.float .f64 b] w fun e w'=>e= .returned (.tuple #[.float .f64 (Qd2 a b).1,.int .i64 (Qd2 a b).2])/\w=w':=by
 rcases QaS ha with ⟨x,hx,rfl,ex⟩ | ⟨ex,s,Z,hz,rfl,hn⟩
 ·rcases QaS hb with ⟨y,hy,rfl,ey⟩ | ⟨ey,t,Y,hy,rfl,hm⟩
  ·rw [Qjy ex ey]
   have HA:=hD (fun W=>Qci x hx W)
   have HB:=hD (fun W=>Qci y hy W)
   have HR:=hD (fun W=>QlU x y hx hy W)
   have c1:=QgD x hx
   have c2:=QgD y hy
   clear ha hb hx hy ex ey
   generalize Qdu x y=r at *
   generalize fi x=p at *
   generalize fi y=q at *
   go_enter Tryz.func179,Tryz.ntmps179
   go_wp2_with fail
   refine (HA.out _).mono ?_
   rintro e w' ⟨rfl,rfl⟩
   go_wp2_with fail
   refine (HB.out _).mono ?_
   rintro e w' ⟨rfl,rfl⟩
   go_wp2_with fail
   refine (HR.out _).mono ?_
   rintro e w' ⟨rfl,rfl⟩
   go_wp2
   go_ret2
   exact ⟨rfl,rfl⟩
  ·rw [QeA (.inr ey)]
   have HA:=hD (fun W=>Qci x hx W)
   have HB:=hD (fun W=>Qd1 t hy hm W)
   clear ha hb hx hy ex ey hm
   go_enter Tryz.func179,Tryz.ntmps179
   go_wp2_with fail
   refine (HA.out _).mono ?_
   rintro e w' ⟨rfl,rfl⟩
   go_wp2_with fail
   refine (HB.out _).mono ?_
   rintro e w' ⟨rfl,rfl⟩
   go_wp2
   go_ret2
   exact ⟨rfl,rfl⟩
 ·rw [QeA (.inl ex)]
  have HA:=hD (fun W=>Qd1 s hz hn W)
  clear ha hb hz hn ex
  go_enter Tryz.func179,Tryz.ntmps179
  go_wp2_with fail
  refine (HA.out _).mono ?_
  rintro e w' ⟨rfl,rfl⟩
  go_wp2
  go_ret2
  exact ⟨rfl,rfl⟩
abbrev one:Nat:=4607182418800017408
theorem Qrb {a b:Nat} (ha:TF a) (hb:TF b):cmpF a b= .eq↔a=b:=by
 constructor
 ·obtain ⟨s,Z,hz,rfl,h1⟩:=ha
  obtain ⟨t,Y,hy,rfl,h2⟩:=hb
  intro h
  unfold cmpF at h
  rw [Qbn s t hz hy] at h
  have hsg:sg s Z=sg t Y:=by
   rcases Int.lt_trichotomy (sg s Z) (sg t Y) with h3 | h3 | h3
   ·rw [QbL h3] at h;cases h
   ·exact h3
   ·rw [QbH h3] at h;cases h
  have hzy:Z=Y:=by
   have e1:=QbT s Z
   have e2:=QbT t Y
   rw [hsg] at e1
   omega
  subst hzy
  by_cases h0:Z=0
  ·rw [h1 h0,h2 h0]
  ·have:s=t:=by
    cases s <;> cases t <;> first | rfl | (simp [sg] at hsg;omega)
   rw [this]
 ·rintro rfl
  obtain ⟨s,Z,hz,rfl,h1⟩:=ha
  unfold cmpF
  rw [Qbn s s hz hz,Qb0]
  rfl
def relB (f:Int) (a b:Nat):Bool :=
 if f=11 then cmpF a b== .lt else if f=12 then cmpF a b != .gt else if f=13 then cmpF a b== .eq else if f=14 then cmpF a b != .lt else if f=15 then cmpF a b== .gt else cmpF a b != .eq
def Qai (t:Bool):Nat:=if t then one else 0
theorem Qcs (t:Bool):TF (Qai t):=by cases t;exact Qa8;exact QfV
def logB (f:Int) (x y:Bool):Bool:=if f=21 then x&&y else if f=22 then x||y else if f=23 then !(x&&y) else !(x||y)
def isT (a:Nat):Bool:=decide (a=0\/a=one)
def tv (a:Nat):Bool:=decide (a=one)
def logP (f:Int) (a b:Nat):Nat×Int:=if isT a&&isT b then (Qai (logB f (tv a) (tv b)),0) else (0,24)
theorem int6 {P:Int->Prop} (f:Int) (h1:11<=f) (h2:f<=16) (a:P 11) (b:P 12) (c:P 13) (d:P 14) (e:P 15) (g:P 16):P f:=by
 have:f=11\/f=12\/f=13\/f=14\/f=15\/f=16:=by omega
 rcases this with rfl | rfl | rfl | rfl | rfl | rfl <;> assumption
theorem int4 {P:Int->Prop} (f:Int) (h1:21<=f) (h2:f<=24) (a:P 21) (b:P 22) (c:P 23) (d:P 24):P f:=by
 have:f=21\/f=22\/f=23\/f=24:=by omega
 rcases this with rfl | rfl | rfl | rfl <;> assumption
theorem Qd3 (f:Int) (hf:11<=f) (hf2:f<=16) (a b:Nat) (ha:TF a) (hb:TF b) (w:World):Calls Tryz.prog 115 #[.int .i64 f,.float .f64 a,.float .f64 b] w fun e w'=>e= .returned (.tuple #[.bool (relB f a b),.int .i64 0])/\w=w':=by
 have h1:=QbE ha hb
 refine int6 (P:=fun f=>Calls Tryz.prog 115 #[.int .i64 f,.float .f64 a,.float .f64 b] w fun e w'=>e= .returned (.tuple #[.bool (relB f a b),.int .i64 0])/\w=w') f hf hf2 ?_ ?_ ?_ ?_ ?_ ?_
 all_goals
  unfold relB
  clear ha hb hf hf2
  cases hc:cmpF a b
  all_goals
   rw [hc] at h1
   clear hc
   go_enter Tryz.func115,Tryz.ntmps115
   go_wp2
   go_ret2
   exact ⟨rfl,rfl⟩
theorem Qhq (f:Int) (hf:11<=f) (hf2:f<=16) (a b:Nat) (ha:TF a) (hb:TF b) (w:World):Calls Tryz.prog 180 #[.int .i64 f,.float .f64 a,.float .f64 b] w fun e w'=>e= .returned (.tuple #[.bool (relB f a b),.int .i64 0])/\w=w':=by
 have h1:=QbE ha hb
 have h2:=QbE hb ha
 rw [QeZ ha hb] at h2
 refine int6 (P:=fun f=>Calls Tryz.prog 180 #[.int .i64 f,.float .f64 a,.float .f64 b] w fun e w'=>e= .returned (.tuple #[.bool (relB f a b),.int .i64 0])/\w=w') f hf hf2 ?_ ?_ ?_ ?_ ?_ ?_
 all_goals
  unfold relB
  clear ha hb hf hf2
  cases hc:cmpF a b
  all_goals
   rw [hc] at h1 h2
   clear hc
   simp only [Ordering.swap] at h2
   go_enter Tryz.func180,Tryz.ntmps180
   go_wp2
   go_ret2
   exact ⟨rfl,rfl⟩
theorem QlW (f:Int) (hf:21<=f) (hf2:f<=24) (x y:Bool) (w:World):Calls Tryz.prog 182 #[.int .i64 f,.bool x,.bool y] w fun e w'=>e= .returned (.tuple #[.bool (logB f x y),.int .i64 0])/\w=w':=by
 refine int4 (P:=fun f=>Calls Tryz.prog 182 #[.int .i64 f,.bool x,.bool y] w fun e w'=>e= .returned (.tuple #[.bool (logB f x y),.int .i64 0])/\w=w') f hf hf2 ?_ ?_ ?_ ?_
 all_goals
  clear hf hf2
  cases x <;> cases y
  all_goals
   go_enter Tryz.func182,Tryz.ntmps182
   go_wp2
   go_ret2
   exact ⟨rfl,rfl⟩
def tabN (f:Int):Nat:=if f=21 then 8 else if f=22 then 14 else if f=23 then 7 else 1
theorem QlX (f:Int) (hf:21<=f) (hf2:f<=24) (w:World):Calls Tryz.prog 250 #[.int .i64 f] w fun e w'=>e= .returned (.tuple #[.int .u8 (tabN f:Nat),.bool true])/\w=w':=by
 refine int4 (P:=fun f=>Calls Tryz.prog 250 #[.int .i64 f] w fun e w'=>e= .returned (.tuple #[.int .u8 (tabN f:Nat),.bool true])/\w=w') f hf hf2 ?_ ?_ ?_ ?_
 all_goals
  clear hf hf2
  go_enter Tryz.func250,Tryz.ntmps250
  go_wp2
  go_ret2
  exact ⟨rfl,rfl⟩
theorem QlY (f:Int) (hf:21<=f) (hf2:f<=24) (x y:Bool) (w:World):Calls Tryz.prog 202 #[.int .i64 f,.bool x,.bool y] w fun e w'=>e= .returned (.tuple #[.bool (logB f x y),.int .i64 0])/\w=w':=by
 have HT:=hD (fun W=>QlX f hf hf2 W)
 have HF:Hid (f=21\/f=22\/f=23\/f=24):=by show _\/_;omega
 clear hf hf2
 rcases HF.out with e | e | e | e
 all_goals
  subst e
  cases x <;> cases y
  all_goals
   go_enter Tryz.func202,Tryz.ntmps202
   go_wp2_with fail
   refine (HT.out _).mono ?_
   rintro e w' ⟨rfl,rfl⟩
   go_wp2
   go_ret2
   exact ⟨rfl,rfl⟩
end Go.Proofs.YtdelgpelkfndeaaGreatDoor
