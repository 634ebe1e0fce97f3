/- A table in memory, and the walk of find. Printed by gen_htb.py. The walk of relate.numbers. The walk of flat.Pick at numbers, all places in .. Conditions: as each theorem says. -/
import Derived.Test.YtdelgpelkfndeaaGreatDoorMgA
import Derived.Test.YtdelgpelkfndeaaGreatDoorMg15
import Derived.Test.YtdelgpelkfndeaaGreatDoorMg12
import Derived.Deep.CutBlock
import Derived.Test.YtdelgpelkfndeaaGreatDoorMg05
import Derived.Test.YtdelgpelkfndeaaGreatDoorMg06
import Derived.Test.YtdelgpelkfndeaaGreatDoorMg07
set_option maxRecDepth 100000
set_option maxHeartbeats 4000000
namespace Go.Proofs.YtdelgpelkfndeaaGreatDoor
open Go Go.RowKit Go.Proofs Fl
theorem Own1.keep {w w':World}{B g n c:Nat}{e:TypeId}{xs:List Value} (h:Own1 w B e (.slice (some ⟨g,0,none⟩) n c) xs) (he:w'.heap[g]?=w.heap[g]?):Own1 w' B e (.slice (some ⟨g,0,none⟩) n c) xs:=by
 refine ⟨h.1,?_⟩
 rcases h.2 with h2 | ⟨g',cap,cur,hv,hbg,hg,r⟩
 ·exact .inl h2
 ·have:g'=g:=by injection hv with h1 _ _;injection h1 with h1;injection h1 with h1;exact h1.symm
  subst this
  exact .inr ⟨g',cap,cur,hv,hbg,by rw [he];exact hg,r⟩
structure TabM (B:Nat) (p:V8) (T g S:Nat) (L:List Int) (W:World):Prop where
 vec:BoxP W T p
 slot:W.cell? ⟨T,8,none⟩=some (.slice (some ⟨g,0,none⟩) S S)
 mask:W.cell? ⟨T,9,none⟩=some (.int .u64 ((S - 1:Nat):Int))
 row:Own1 W B 3 (.slice (some ⟨g,0,none⟩) S S) (L.map (Value.int .i64))
 len:L.length=S
 ne:T≠g
 low:B<=T
theorem TabM.lt {B:Nat}{p:V8}{T g S:Nat}{L:List Int}{W:World} (h:TabM B p T g S L W):T < W.heap.size/\B<=g/\g < W.heap.size:=⟨Qav h.slot,World.ownsRow.lt h.row g rfl⟩
theorem TabM.keep {B:Nat}{p:V8}{T g S:Nat}{L:List Int}{W W':World} (h:TabM B p T g S L W) (h1:W'.heap[T]?=W.heap[T]?) (h2:W'.heap[g]?=W.heap[g]?):TabM B p T g S L W':=by
 have e:∀ j,W'.cell? ⟨T,j,none⟩=W.cell? ⟨T,j,none⟩:=fun _=>World.cell?_of_block (w:=W) h1
 obtain ⟨v0,v1,v2,v3,v4,v5,v6,v7⟩:=h.vec
 exact ⟨⟨by rw [e];exact v0,by rw [e];exact v1,by rw [e];exact v2,by rw [e];exact v3,by rw [e];exact v4,by rw [e];exact v5,by rw [e];exact v6,by rw [e];exact v7⟩,by rw [e];exact h.slot,by rw [e];exact h.mask,h.row.keep h2,h.len,h.ne,h.low⟩
theorem TabM.step {B:Nat}{p:V8}{T g S:Nat}{L:List Int}{W W':World} (h:TabM B p T g S L W) (hb:Below W.heap.size W W'):TabM B p T g S L W':=h.keep (hb.block T h.lt.1) (hb.block g h.lt.2.2)
theorem TabM.at_ {B:Nat}{p:V8}{T g S:Nat}{L:List Int}{W:World} (h:TabM B p T g S L W){a:Nat} (ha:a < S):W.cell? ⟨g,a,none⟩=some (.int .i64 (L.getD a 0)):=by
 have hr:W.ownsRow B 3 1 (.slice (some ⟨g,0,none⟩) S S) S (L.map (Value.int .i64)):=by
  have h9:=h.row
  unfold Own1 at h9
  rw [List.length_map,h.len] at h9
  exact h9
 have h1:=World.ownsRow.cellAt hr a (by omega)
 have h2:a < L.length:=by rw [h.len];exact ha
 rw [h1]
 simp [List.getD,h2]
structure FM (B:Nat) (p q:V8) (T g S:Nat) (L:List Int) (w W:World):Prop where
 one:V1B w W q
 tab:TabM B p T g S L W
theorem FM.step {B:Nat}{p q:V8}{T g S:Nat}{L:List Int}{w W W':World} (h:FM B p q T g S L w W) (hb:Below W.heap.size W W'):FM B p q T g S L w W':=⟨h.one.step hb,h.tab.step hb⟩
theorem FM.dr {B:Nat}{p q:V8}{T g S:Nat}{L:List Int}{w W:World} (h:FM B p q T g S L w W):FM B p q T g S L w W.drew:=h.step (Below.refl _ W).drew
theorem Qka (x S m:Nat) (hS:S=2 ^ m) (hx:x < 18446744073709551616) (hm:S<=4194304):bits .and .u64 (x:Int) ((S - 1:Nat):Int)=((x % S:Nat):Int):=by
 rw [u64_and_nat x (S - 1) hx (by omega),hS,Nat.and_two_pow_sub_one_eq_mod]
def FndP (S:Nat) (L:List Int) (kn:Nat) (al:Nat->Bool) (pl:Nat):Prop :=
 ∃ d,d < S/\pl=(kn+d) % S/\(∀ d',d' < d->∃ j:Nat,L.getD ((kn+d') % S) 0=(j:Int)/\al j=false)/\(L.getD pl 0=-1\/∃ j:Nat,L.getD pl 0=(j:Int)/\al j=true)
def QpH (S:Nat) (L:List Int) (kn:Nat) (al:Nat->Bool) (w:World) (e:Ending) (w':World):Prop:=∃ pl:Nat,e= .returned (.int .i64 (pl:Int))/\FndP S L kn al pl/\Below w.heap.size w w'
theorem Qm6 (kn d S:Nat) (hd:d < S):((kn+d) % S+(S - kn % S)) % S=d:=by
 have h1:kn % S < S:=Nat.mod_lt _ (by omega)
 have h2:=Nat.div_add_mod kn S
 by_cases h3:kn % S+d < S
 ·have e:(kn+d) % S=kn % S+d:=by
   rw [show kn+d=S*(kn / S)+(kn % S+d) by omega,Nat.mul_add_mod,Nat.mod_eq_of_lt h3]
  rw [e,show kn % S+d+(S - kn % S)=d+S by omega,Nat.add_mod_right,Nat.mod_eq_of_lt hd]
 ·have e:(kn+d) % S=kn % S+d - S:=by
   rw [show kn+d=S*(kn / S)+(kn % S+d) by omega,Nat.mul_add_mod,Nat.mod_eq_sub_mod (by omega),Nat.mod_eq_of_lt (by omega)]
  rw [e,show kn % S+d - S+(S - kn % S)=d by omega,Nat.mod_eq_of_lt hd]
theorem fm_1 {B:Nat}{p q:V8}{T g S:Nat}{L:List Int}{w W:World} (h:FM B p q T g S L w W):(W.cell? ⟨w.heap.size,0,none⟩=some (.int .i64 q.k)/\W.cell? ⟨w.heap.size,1,none⟩=some (.slice q.b.1 q.b.2.1 q.b.2.2)/\W.cell? ⟨w.heap.size,2,none⟩=some (.int .i64 q.bn)/\W.cell? ⟨w.heap.size,3,none⟩=some (.slice q.s.1 q.s.2.1 q.s.2.2)/\W.cell? ⟨w.heap.size,4,none⟩=some (.slice q.i.1 q.i.2.1 q.i.2.2)/\W.cell? ⟨w.heap.size,5,none⟩=some (.slice q.f.1 q.f.2.1 q.f.2.2)/\W.cell? ⟨w.heap.size,6,none⟩=some (.slice q.c.1 q.c.2.1 q.c.2.2)/\W.cell? ⟨w.heap.size,7,none⟩=some (.slice q.x.1 q.x.2.1 q.x.2.2)/\W.cell? ⟨T,9,none⟩=some (.int .u64 ((S - 1:Nat):Int)))/\FM B p q T g S L w W:=by
 obtain ⟨c0,c1,c2,c3,c4,c5,c6,c7⟩:=h.one.one
 exact ⟨⟨c0,c1,c2,c3,c4,c5,c6,c7,h.tab.mask⟩,h⟩
theorem fm_2 {B:Nat}{p q:V8}{T g S:Nat}{L:List Int}{w W:World}{a:Nat}{X:Int} (ha:a < S) (hX:L.getD a 0=X) (h:FM B p q T g S L w W):(W.cell? ⟨w.heap.size,0,none⟩=some (.int .i64 q.k)/\W.cell? ⟨w.heap.size,1,none⟩=some (.slice q.b.1 q.b.2.1 q.b.2.2)/\W.cell? ⟨w.heap.size,2,none⟩=some (.int .i64 q.bn)/\W.cell? ⟨w.heap.size,3,none⟩=some (.slice q.s.1 q.s.2.1 q.s.2.2)/\W.cell? ⟨w.heap.size,4,none⟩=some (.slice q.i.1 q.i.2.1 q.i.2.2)/\W.cell? ⟨w.heap.size,5,none⟩=some (.slice q.f.1 q.f.2.1 q.f.2.2)/\W.cell? ⟨w.heap.size,6,none⟩=some (.slice q.c.1 q.c.2.1 q.c.2.2)/\W.cell? ⟨w.heap.size,7,none⟩=some (.slice q.x.1 q.x.2.1 q.x.2.2)/\W.cell? ⟨T,0,none⟩=some (.int .i64 p.k)/\W.cell? ⟨T,1,none⟩=some (.slice p.b.1 p.b.2.1 p.b.2.2)/\W.cell? ⟨T,2,none⟩=some (.int .i64 p.bn)/\W.cell? ⟨T,3,none⟩=some (.slice p.s.1 p.s.2.1 p.s.2.2)/\W.cell? ⟨T,4,none⟩=some (.slice p.i.1 p.i.2.1 p.i.2.2)/\W.cell? ⟨T,5,none⟩=some (.slice p.f.1 p.f.2.1 p.f.2.2)/\W.cell? ⟨T,6,none⟩=some (.slice p.c.1 p.c.2.1 p.c.2.2)/\W.cell? ⟨T,7,none⟩=some (.slice p.x.1 p.x.2.1 p.x.2.2)/\W.cell? ⟨T,8,none⟩=some (.slice (some ⟨g,0,none⟩) S S)/\W.cell? ⟨g,a,none⟩=some (.int .i64 X))/\FM B p q T g S L w W:=by
 obtain ⟨c0,c1,c2,c3,c4,c5,c6,c7⟩:=h.one.one
 obtain ⟨d0,d1,d2,d3,d4,d5,d6,d7⟩:=h.tab.vec
 exact ⟨⟨c0,c1,c2,c3,c4,c5,c6,c7,d0,d1,d2,d3,d4,d5,d6,d7,h.tab.slot,hX▸h.tab.at_ ha⟩,h⟩
theorem Qkb {B:Nat}{p q:V8}{T g S m:Nat}{L:List Int} (hS:S=2 ^ m) (hS2:S<=4194304) (w:World) (ht:TabM B p T g S L w) (kz:Int) (hkz:InK kz) (k n:Nat) (al:Nat->Bool)
  (hL:∀ x,x < S->L.getD x 0=-1\/∃ j:Nat,j < n/\L.getD x 0=(j:Int)) (hfree:∃ d,d < S/\L.getD ((kz.toNat+d) % S) 0=-1)
  (hKE:∀ W,Below w.heap.size w W->Calls Tryz.prog 170 #[q.v,.int .i64 (k:Int)] W (KeyR kz W))
  (hAL:∀ j,j < n->∀ W,Below w.heap.size w W->Calls Tryz.prog 171 #[p.v,.int .i64 (j:Int),q.v,.int .i64 (k:Int)] W fun e w'=>e= .returned (.bool (al j))/\Below W.heap.size W w') :
  Calls Tryz.prog 112 #[.pointer (some ⟨T,0,none⟩),q.v,.int .i64 (k:Int)] w (QpH S L kz.toNat al w):=by
 obtain ⟨kn,hkn⟩:∃ kn:Nat,kz=(kn:Int):=⟨kz.toNat,by have:=hkz.1;omega⟩
 subst hkn
 have hk64:kn < 18446744073709551616:=by have:=hkz.2;omega
 rw [Int.toNat_natCast] at hfree ⊢
 have hSp:0 < S:=by obtain ⟨d,hd,_⟩:=hfree;omega
 have HM:=hD (Qka kn S m hS hk64 hS2)
 have HM2:=hD (fun x (hx:x < 18446744073709551616)=>Qka x S m hS hx hS2)
 obtain ⟨df,hdf,hfr⟩:=hfree
 have HFR:=hD hfr
 have HL:=hD hL
 have HKE:=hD hKE
 have HAL:=hD hAL
 have HS0:Hid (FM B p q T g S L w (w.alloc q.o)):=⟨V1B.new w q,ht.step (bel1 w _)⟩
 clear ht hkz hL hfr hKE hAL hS
 unfold KeyR at HKE
 unfold QpH
 go_enter Tryz.func112,Tryz.ntmps112
 go_wp2_with fail
 obtain ⟨wz,hwz⟩:∃ wz,wz=w.alloc q.o:=⟨_,rfl⟩
 rw [<- hwz] at HS0
 have HWZ:=hD hwz
 clear hwz
 rw [<- HWZ.out]
 go_cut [7] from 7 (fun x wx=>x= .int .u64 ((kn % S:Nat):Int)/\FM B p q T g S L w wx)
 case first =>
  have hs0:=HS0.out.dr
  have hs00:=HS0.out
  have hm:=HM.out
  go_region_held3 (fun W=>(W.cell? ⟨w.heap.size,0,none⟩=some (.int .i64 q.k)/\W.cell? ⟨w.heap.size,1,none⟩=some (.slice q.b.1 q.b.2.1 q.b.2.2)/\W.cell? ⟨w.heap.size,2,none⟩=some (.int .i64 q.bn)/\W.cell? ⟨w.heap.size,3,none⟩=some (.slice q.s.1 q.s.2.1 q.s.2.2)/\W.cell? ⟨w.heap.size,4,none⟩=some (.slice q.i.1 q.i.2.1 q.i.2.2)/\W.cell? ⟨w.heap.size,5,none⟩=some (.slice q.f.1 q.f.2.1 q.f.2.2)/\W.cell? ⟨w.heap.size,6,none⟩=some (.slice q.c.1 q.c.2.1 q.c.2.2)/\W.cell? ⟨w.heap.size,7,none⟩=some (.slice q.x.1 q.x.2.1 q.x.2.2)/\W.cell? ⟨T,9,none⟩=some (.int .u64 ((S - 1:Nat):Int)))/\FM B p q T g S L w W)
   (first | with_reducible assumption | (with_reducible (refine fm_1 ?_);repeat (first | with_reducible assumption | with_reducible refine FM.dr ?_)))
   (first | (go_at_call 170;(with_reducible refine (HKE.out _ ?_).mono ?_);exact V1B.bel (FM.one (by repeat (first | with_reducible assumption | with_reducible refine FM.dr ?_)));rintro e w1 ⟨rfl,hb1⟩;have hst1:FM B p q T g S L w w1:=FM.step (by repeat (first | with_reducible assumption | with_reducible refine FM.dr ?_)) hb1;clear hb1))
  all_goals
   go_wp2
   go_meet
   exact ⟨by first | rfl | rw [HM.out],hst1⟩
 obtain ⟨rfl,hst⟩:=hcut
 have HST:=hD hst
 clear hst HS0 HWZ HM
 go_wp2
 go_loopw [7] (fun iv wr=>∃ a d:Nat,a < S/\d<=df/\iv= .int .u64 (a:Int)/\Hid (a=(kn+d) % S)/\(∀ d',d' < d->∃ j:Nat,L.getD ((kn+d') % S) 0=(j:Int)/\al j=false)/\FM B p q T g S L w wr) (fun iv _=>df - ((intOf iv).toNat+(S - kn % S)) % S)
 case atStart=>exact ⟨kn % S,0,Nat.mod_lt _ hSp,Nat.zero_le _,rfl,(show kn % S=(kn+0) % S by rw [Nat.add_zero]),fun d' hd'=>absurd hd' (Nat.not_lt_zero _),HST.out⟩
 case round =>
  obtain ⟨a,d,ha,hd,rfl,hae,hbd,hti⟩:=hrel
  have HAE:Hid (a=(kn+d) % S):=hae
  have HBD:=hD hbd
  have HS1:=hD hti
  have hs0:=HS1.out.dr
  have hs00:=HS1.out
  clear hti hbd hae
  rcases HL.out a ha with hX | ⟨j,hj,hX⟩
  ·have hlt2:(a:Int) < (S:Int):=by omega
   go_wp2_with fail
   refine wp_region_noPanic ?_
   refine wp_region_held_drew (S:=fun W=>(W.cell? ⟨w.heap.size,0,none⟩=some (.int .i64 q.k)/\W.cell? ⟨w.heap.size,1,none⟩=some (.slice q.b.1 q.b.2.1 q.b.2.2)/\W.cell? ⟨w.heap.size,2,none⟩=some (.int .i64 q.bn)/\W.cell? ⟨w.heap.size,3,none⟩=some (.slice q.s.1 q.s.2.1 q.s.2.2)/\W.cell? ⟨w.heap.size,4,none⟩=some (.slice q.i.1 q.i.2.1 q.i.2.2)/\W.cell? ⟨w.heap.size,5,none⟩=some (.slice q.f.1 q.f.2.1 q.f.2.2)/\W.cell? ⟨w.heap.size,6,none⟩=some (.slice q.c.1 q.c.2.1 q.c.2.2)/\W.cell? ⟨w.heap.size,7,none⟩=some (.slice q.x.1 q.x.2.1 q.x.2.2)/\W.cell? ⟨T,0,none⟩=some (.int .i64 p.k)/\W.cell? ⟨T,1,none⟩=some (.slice p.b.1 p.b.2.1 p.b.2.2)/\W.cell? ⟨T,2,none⟩=some (.int .i64 p.bn)/\W.cell? ⟨T,3,none⟩=some (.slice p.s.1 p.s.2.1 p.s.2.2)/\W.cell? ⟨T,4,none⟩=some (.slice p.i.1 p.i.2.1 p.i.2.2)/\W.cell? ⟨T,5,none⟩=some (.slice p.f.1 p.f.2.1 p.f.2.2)/\W.cell? ⟨T,6,none⟩=some (.slice p.c.1 p.c.2.1 p.c.2.2)/\W.cell? ⟨T,7,none⟩=some (.slice p.x.1 p.x.2.1 p.x.2.2)/\W.cell? ⟨T,8,none⟩=some (.slice (some ⟨g,0,none⟩) S S)/\W.cell? ⟨g,a,none⟩=some (.int .i64 (-1)))/\FM B p q T g S L w W) (by kernel_rfl) (by exact fm_2 ha hX hs0) (fun hHeld=>?_)
   refine wpAnyH_take (i:=0) (v:=?av1) rfl (by kernel_rfl) (by kernel_rfl) (by kernel_rfl) (fun _ _ _ h=>h) (Or.inl ⟨by rfl,?ay1⟩) (by assumption) ?as1
   case ay1=>(intro w hSw;(try dsimp only at hSw);go_simp;try with_reducible rfl)
   change wpAnyH _ _ _ _ _ _ _ (Act.put _ (some 16) _) _
   simp only [Act.put,List.setIfInBounds_toArray,List.set_cons_zero,List.set_cons_succ]
   refine wpAnyH_take (i:=1) (v:=?av2) rfl (by kernel_rfl) (by kernel_rfl) (by kernel_rfl) (fun _ _ _ h=>h) (Or.inl ⟨by rfl,?ay2⟩) (by assumption) ?as2
   case ay2=>(intro w hSw;(try dsimp only at hSw);go_simp;try with_reducible rfl)
   change wpAnyH _ _ _ _ _ _ _ (Act.put _ (some 17) _) _
   simp only [Act.put,List.setIfInBounds_toArray,List.set_cons_zero,List.set_cons_succ]
   refine wpAnyH_take (i:=2) (v:=?av3) rfl (by kernel_rfl) (by kernel_rfl) (by kernel_rfl) (fun _ _ _ h=>h) (Or.inl ⟨by rfl,?ay3⟩) (by assumption) ?as3
   case ay3=>(intro w hSw;(try dsimp only at hSw);go_simp;try with_reducible rfl)
   change wpAnyH _ _ _ _ _ _ _ (Act.put _ (some 18) _) _
   simp only [Act.put,List.setIfInBounds_toArray,List.set_cons_zero,List.set_cons_succ]
   refine wpAnyH_take (i:=3) (v:=?av4) rfl (by kernel_rfl) (by kernel_rfl) (by kernel_rfl) (fun _ _ _ h=>h) (Or.inl ⟨by rfl,?ay4⟩) (by assumption) ?as4
   case ay4=>(intro w hSw;(try dsimp only at hSw);go_simp;try with_reducible rfl)
   change wpAnyH _ _ _ _ _ _ _ (Act.put _ (some 19) _) _
   simp only [Act.put,List.setIfInBounds_toArray,List.set_cons_zero,List.set_cons_succ]
   refine wpAnyH_take (i:=4) (v:=?av5) rfl (by kernel_rfl) (by kernel_rfl) (by kernel_rfl) (fun _ _ _ h=>h) (Or.inl ⟨by rfl,?ay5⟩) (by assumption) ?as5
   case ay5=>(intro w hSw;(try dsimp only at hSw);go_simp;try with_reducible rfl)
   change wpAnyH _ _ _ _ _ _ _ (Act.put _ (some 20) _) _
   simp only [Act.put,List.setIfInBounds_toArray,List.set_cons_zero,List.set_cons_succ]
   refine wpAnyH_take (i:=5) (v:=?av6) rfl (by kernel_rfl) (by kernel_rfl) (by kernel_rfl) (fun _ _ _ h=>h) (Or.inl ⟨by rfl,?ay6⟩) (by assumption) ?as6
   case ay6=>(intro w hSw;(try dsimp only at hSw);go_simp;try with_reducible rfl)
   change wpAnyH _ _ _ _ _ _ _ (Act.put _ (some 21) _) _
   simp only [Act.put,List.setIfInBounds_toArray,List.set_cons_zero,List.set_cons_succ]
   refine wpAnyH_take (i:=6) (v:=?av7) rfl (by kernel_rfl) (by kernel_rfl) (by kernel_rfl) (fun _ _ _ h=>h) (Or.inl ⟨by rfl,?ay7⟩) (by assumption) ?as7
   case ay7=>(intro w hSw;(try dsimp only at hSw);go_simp;try with_reducible rfl)
   change wpAnyH _ _ _ _ _ _ _ (Act.put _ (some 22) _) _
   simp only [Act.put,List.setIfInBounds_toArray,List.set_cons_zero,List.set_cons_succ]
   refine wpAnyH_take (i:=7) (v:=?av8) rfl (by kernel_rfl) (by kernel_rfl) (by kernel_rfl) (fun _ _ _ h=>h) (Or.inl ⟨by rfl,?ay8⟩) (by assumption) ?as8
   case ay8=>(intro w hSw;(try dsimp only at hSw);go_simp;try with_reducible rfl)
   change wpAnyH _ _ _ _ _ _ _ (Act.put _ (some 23) _) _
   simp only [Act.put,List.setIfInBounds_toArray,List.set_cons_zero,List.set_cons_succ]
   refine wpAnyH_take (i:=8) (v:=?av9) rfl (by kernel_rfl) (by kernel_rfl) (by kernel_rfl) (fun _ _ _ h=>h) (Or.inl ⟨by rfl,?ay9⟩) (by assumption) ?as9
   case ay9=>(intro w hSw;(try dsimp only at hSw);go_simp;try with_reducible rfl)
   change wpAnyH _ _ _ _ _ _ _ (Act.put _ (some 24) _) _
   simp only [Act.put,List.setIfInBounds_toArray,List.set_cons_zero,List.set_cons_succ]
   refine wpAnyH_take (i:=9) (v:=undef) rfl (by kernel_rfl) (by kernel_rfl) (by kernel_rfl) (fun _ _ _ h=>h) (Or.inr ⟨by (go_simp <;> (intro h;cases h)),rfl⟩) (by assumption) ?_
   change wpAnyH _ _ _ _ _ _ _ (Act.put _ (some 25) _) _
   simp only [Act.put,List.setIfInBounds_toArray,List.set_cons_zero,List.set_cons_succ]
   refine wpAnyH_take (i:=10) (v:=undef) rfl (by kernel_rfl) (by kernel_rfl) (by kernel_rfl) (fun _ _ _ h=>h) (Or.inr ⟨by (go_simp <;> (intro h;cases h)),rfl⟩) (by assumption) ?_
   change wpAnyH _ _ _ _ _ _ _ (Act.put _ (some 26) _) _
   simp only [Act.put,List.setIfInBounds_toArray,List.set_cons_zero,List.set_cons_succ]
   refine wpAnyH_take (i:=11) (v:=undef) rfl (by kernel_rfl) (by kernel_rfl) (by kernel_rfl) (fun _ _ _ h=>h) (Or.inr ⟨by (go_simp <;> (intro h;cases h)),rfl⟩) (by assumption) ?_
   change wpAnyH _ _ _ _ _ _ _ (Act.put _ (some 27) _) _
   simp only [Act.put,List.setIfInBounds_toArray,List.set_cons_zero,List.set_cons_succ]
   refine wpAnyH_take (i:=12) (v:=undef) rfl (by kernel_rfl) (by kernel_rfl) (by kernel_rfl) (fun _ _ _ h=>h) (Or.inr ⟨by (go_simp <;> (intro h;cases h)),rfl⟩) (by assumption) ?_
   change wpAnyH _ _ _ _ _ _ _ (Act.put _ (some 28) _) _
   simp only [Act.put,List.setIfInBounds_toArray,List.set_cons_zero,List.set_cons_succ]
   refine wpAnyH_take (i:=13) (v:=undef) rfl (by kernel_rfl) (by kernel_rfl) (by kernel_rfl) (fun _ _ _ h=>h) (Or.inr ⟨by (go_simp <;> (intro h;cases h)),rfl⟩) (by assumption) ?_
   change wpAnyH _ _ _ _ _ _ _ (Act.put _ (some 29) _) _
   simp only [Act.put,List.setIfInBounds_toArray,List.set_cons_zero,List.set_cons_succ]
   refine wpAnyH_take (i:=14) (v:=undef) rfl (by kernel_rfl) (by kernel_rfl) (by kernel_rfl) (fun _ _ _ h=>h) (Or.inr ⟨by (go_simp <;> (intro h;cases h)),rfl⟩) (by assumption) ?_
   change wpAnyH _ _ _ _ _ _ _ (Act.put _ (some 30) _) _
   simp only [Act.put,List.setIfInBounds_toArray,List.set_cons_zero,List.set_cons_succ]
   refine wpAnyH_take (i:=15) (v:=undef) rfl (by kernel_rfl) (by kernel_rfl) (by kernel_rfl) (fun _ _ _ h=>h) (Or.inr ⟨by (go_simp <;> (intro h;cases h)),rfl⟩) (by assumption) ?_
   change wpAnyH _ _ _ _ _ _ _ (Act.put _ (some 31) _) _
   simp only [Act.put,List.setIfInBounds_toArray,List.set_cons_zero,List.set_cons_succ]
   refine wpAnyH_take (i:=16) (v:=undef) rfl (by kernel_rfl) (by kernel_rfl) (by kernel_rfl) (fun _ _ _ h=>h) (Or.inr ⟨by (go_simp <;> (intro h;cases h)),rfl⟩) (by assumption) ?_
   change wpAnyH _ _ _ _ _ _ _ (Act.put _ (some 32) _) _
   simp only [Act.put,List.setIfInBounds_toArray,List.set_cons_zero,List.set_cons_succ]
   refine wpAnyH_take (i:=17) (v:=undef) rfl (by kernel_rfl) (by kernel_rfl) (by kernel_rfl) (fun _ _ _ h=>h) (Or.inr ⟨by (go_simp <;> (intro h;cases h)),rfl⟩) (by assumption) ?_
   change wpAnyH _ _ _ _ _ _ _ (Act.put _ (some 33) _) _
   simp only [Act.put,List.setIfInBounds_toArray,List.set_cons_zero,List.set_cons_succ]
   refine wpAnyH_take (i:=18) (v:=undef) rfl (by kernel_rfl) (by kernel_rfl) (by kernel_rfl) (fun _ _ _ h=>h) (Or.inr ⟨by (go_simp <;> (intro h;cases h)),rfl⟩) (by assumption) ?_
   change wpAnyH _ _ _ _ _ _ _ (Act.put _ (some 34) _) _
   simp only [Act.put,List.setIfInBounds_toArray,List.set_cons_zero,List.set_cons_succ]
   refine wpAnyH_take (i:=19) (v:=undef) rfl (by kernel_rfl) (by kernel_rfl) (by kernel_rfl) (fun _ _ _ h=>h) (Or.inr ⟨by (go_simp <;> (intro h;cases h)),rfl⟩) (by assumption) ?_
   change wpAnyH _ _ _ _ _ _ _ (Act.put _ (some 35) _) _
   simp only [Act.put,List.setIfInBounds_toArray,List.set_cons_zero,List.set_cons_succ]
   refine wpAnyH_take (i:=20) (v:=undef) rfl (by kernel_rfl) (by kernel_rfl) (by kernel_rfl) (fun _ _ _ h=>h) (Or.inr ⟨by (go_simp <;> (intro h;cases h)),rfl⟩) (by assumption) ?_
   change wpAnyH _ _ _ _ _ _ _ (Act.put _ (some 36) _) _
   simp only [Act.put,List.setIfInBounds_toArray,List.set_cons_zero,List.set_cons_succ]
   refine wpAnyH_take (i:=21) (v:=undef) rfl (by kernel_rfl) (by kernel_rfl) (by kernel_rfl) (fun _ _ _ h=>h) (Or.inr ⟨by (go_simp <;> (intro h;cases h)),rfl⟩) (by assumption) ?_
   change wpAnyH _ _ _ _ _ _ _ (Act.put _ (some 37) _) _
   simp only [Act.put,List.setIfInBounds_toArray,List.set_cons_zero,List.set_cons_succ]
   refine wpAnyH_take (i:=22) (v:=undef) rfl (by kernel_rfl) (by kernel_rfl) (by kernel_rfl) (fun _ _ _ h=>h) (Or.inr ⟨by (go_simp <;> (intro h;cases h)),rfl⟩) (by assumption) ?_
   change wpAnyH _ _ _ _ _ _ _ (Act.put _ (some 38) _) _
   simp only [Act.put,List.setIfInBounds_toArray,List.set_cons_zero,List.set_cons_succ]
   refine wpAnyH_take (i:=23) (v:=undef) rfl (by kernel_rfl) (by kernel_rfl) (by kernel_rfl) (fun _ _ _ h=>h) (Or.inr ⟨by (go_simp <;> (intro h;cases h)),rfl⟩) (by assumption) ?_
   change wpAnyH _ _ _ _ _ _ _ (Act.put _ (some 39) _) _
   simp only [Act.put,List.setIfInBounds_toArray,List.set_cons_zero,List.set_cons_succ]
   refine wpAnyH_take (i:=24) (v:=?av25) rfl (by kernel_rfl) (by kernel_rfl) (by kernel_rfl) (fun _ _ _ h=>h) (Or.inl ⟨by rfl,?ay25⟩) (by assumption) ?as25
   case ay25=>(intro w hSw;(try dsimp only at hSw);go_simp;try with_reducible rfl)
   change wpAnyH _ _ _ _ _ _ _ (Act.put _ (some 40) _) _
   simp only [Act.put,List.setIfInBounds_toArray,List.set_cons_zero,List.set_cons_succ]
   refine wpAnyH_done (by kernel_rfl) ?_ _
   refine NoPanic.normal ?_
   go_wp2
   go_ret
   exact ⟨a,rfl,⟨d,by omega,HAE.out,HBD.out,.inl hX⟩,HS1.out.dr.one.bel⟩
  ·have hlt2:(a:Int) < (S:Int):=by omega
   have HAJ:=hD (HAL.out j hj)
   have hj0:(0:Int)<=(j:Int):=by omega
   cases hal:al j with
   | true =>
    rw [hal] at HAJ
    have HB:=hD hal
    clear hal
    go_wp2_with fail
    go_region_held3 (fun W=>(W.cell? ⟨w.heap.size,0,none⟩=some (.int .i64 q.k)/\W.cell? ⟨w.heap.size,1,none⟩=some (.slice q.b.1 q.b.2.1 q.b.2.2)/\W.cell? ⟨w.heap.size,2,none⟩=some (.int .i64 q.bn)/\W.cell? ⟨w.heap.size,3,none⟩=some (.slice q.s.1 q.s.2.1 q.s.2.2)/\W.cell? ⟨w.heap.size,4,none⟩=some (.slice q.i.1 q.i.2.1 q.i.2.2)/\W.cell? ⟨w.heap.size,5,none⟩=some (.slice q.f.1 q.f.2.1 q.f.2.2)/\W.cell? ⟨w.heap.size,6,none⟩=some (.slice q.c.1 q.c.2.1 q.c.2.2)/\W.cell? ⟨w.heap.size,7,none⟩=some (.slice q.x.1 q.x.2.1 q.x.2.2)/\W.cell? ⟨T,0,none⟩=some (.int .i64 p.k)/\W.cell? ⟨T,1,none⟩=some (.slice p.b.1 p.b.2.1 p.b.2.2)/\W.cell? ⟨T,2,none⟩=some (.int .i64 p.bn)/\W.cell? ⟨T,3,none⟩=some (.slice p.s.1 p.s.2.1 p.s.2.2)/\W.cell? ⟨T,4,none⟩=some (.slice p.i.1 p.i.2.1 p.i.2.2)/\W.cell? ⟨T,5,none⟩=some (.slice p.f.1 p.f.2.1 p.f.2.2)/\W.cell? ⟨T,6,none⟩=some (.slice p.c.1 p.c.2.1 p.c.2.2)/\W.cell? ⟨T,7,none⟩=some (.slice p.x.1 p.x.2.1 p.x.2.2)/\W.cell? ⟨T,8,none⟩=some (.slice (some ⟨g,0,none⟩) S S)/\W.cell? ⟨g,a,none⟩=some (.int .i64 (j:Int)))/\FM B p q T g S L w W)
     (first | with_reducible assumption | (with_reducible (refine fm_2 ha hX ?_);repeat (first | with_reducible assumption | with_reducible refine FM.dr ?_)))
     (first | (go_at_call 171;(with_reducible refine (HAJ.out _ ?_).mono ?_);exact V1B.bel (FM.one (by repeat (first | with_reducible assumption | with_reducible refine FM.dr ?_)));rintro e w1 ⟨rfl,hb1⟩;have hst1:FM B p q T g S L w w1:=FM.step (by repeat (first | with_reducible assumption | with_reducible refine FM.dr ?_)) hb1;clear hb1))
    all_goals
     go_wp2
     go_ret
     exact ⟨a,rfl,⟨d,by omega,HAE.out,HBD.out,.inr ⟨j,hX,HB.out⟩⟩,hst1.one.bel⟩
   | false =>
    rw [hal] at HAJ
    have HB:=hD hal
    clear hal
    have hne:d≠df:=fun e=>by
     have h8:=HFR.out
     rw [<- e,<- HAE.out,hX] at h8
     omega
    have HX:=hD hX
    have hmk:bits .and .u64 ((a:Int)+1) ((S - 1:Nat):Int)=(((a+1) % S:Nat):Int):=by
     have h8:=HM2.out (a+1) (by omega)
     rw [Int.natCast_add] at h8
     exact h8
    have HMK:=hD hmk
    clear hmk
    go_wp2_with fail
    go_region_held3 (fun W=>(W.cell? ⟨w.heap.size,0,none⟩=some (.int .i64 q.k)/\W.cell? ⟨w.heap.size,1,none⟩=some (.slice q.b.1 q.b.2.1 q.b.2.2)/\W.cell? ⟨w.heap.size,2,none⟩=some (.int .i64 q.bn)/\W.cell? ⟨w.heap.size,3,none⟩=some (.slice q.s.1 q.s.2.1 q.s.2.2)/\W.cell? ⟨w.heap.size,4,none⟩=some (.slice q.i.1 q.i.2.1 q.i.2.2)/\W.cell? ⟨w.heap.size,5,none⟩=some (.slice q.f.1 q.f.2.1 q.f.2.2)/\W.cell? ⟨w.heap.size,6,none⟩=some (.slice q.c.1 q.c.2.1 q.c.2.2)/\W.cell? ⟨w.heap.size,7,none⟩=some (.slice q.x.1 q.x.2.1 q.x.2.2)/\W.cell? ⟨T,0,none⟩=some (.int .i64 p.k)/\W.cell? ⟨T,1,none⟩=some (.slice p.b.1 p.b.2.1 p.b.2.2)/\W.cell? ⟨T,2,none⟩=some (.int .i64 p.bn)/\W.cell? ⟨T,3,none⟩=some (.slice p.s.1 p.s.2.1 p.s.2.2)/\W.cell? ⟨T,4,none⟩=some (.slice p.i.1 p.i.2.1 p.i.2.2)/\W.cell? ⟨T,5,none⟩=some (.slice p.f.1 p.f.2.1 p.f.2.2)/\W.cell? ⟨T,6,none⟩=some (.slice p.c.1 p.c.2.1 p.c.2.2)/\W.cell? ⟨T,7,none⟩=some (.slice p.x.1 p.x.2.1 p.x.2.2)/\W.cell? ⟨T,8,none⟩=some (.slice (some ⟨g,0,none⟩) S S)/\W.cell? ⟨g,a,none⟩=some (.int .i64 (j:Int)))/\FM B p q T g S L w W)
     (first | with_reducible assumption | (with_reducible (refine fm_2 ha hX ?_);repeat (first | with_reducible assumption | with_reducible refine FM.dr ?_)))
     (first | (go_at_call 171;(with_reducible refine (HAJ.out _ ?_).mono ?_);exact V1B.bel (FM.one (by repeat (first | with_reducible assumption | with_reducible refine FM.dr ?_)));rintro e w1 ⟨rfl,hb1⟩;have hst1:FM B p q T g S L w w1:=FM.step (by repeat (first | with_reducible assumption | with_reducible refine FM.dr ?_)) hb1;clear hb1))
    all_goals
     have hmk1:=hst1.tab.mask
     go_wp2
     go_roundw
     case rel =>
      refine ⟨(a+1) % S,d+1,Nat.mod_lt _ (by omega),by omega,?_,?_,fun d' hd'=>?_,hst1⟩
      ·rw [HMK.out]
      ·show (a+1) % S=(kn+(d+1)) % S
       rw [HAE.out,Nat.mod_add_mod,Nat.add_assoc]
      ·by_cases e:d'=d
       ·subst e;exact ⟨j,(congrArg (fun z=>L.getD z 0) HAE.out).symm.trans HX.out,HB.out⟩
       ·exact HBD.out d' (by omega)
     case measure =>
      have e1:=Qm6 kn d S (by omega)
      have e2:=Qm6 kn (d+1) S (by omega)
      have e3:(a+1) % S=(kn+(d+1)) % S:=by rw [HAE.out,Nat.mod_add_mod,Nat.add_assoc]
      rw [<- HAE.out] at e1
      rw [<- e3] at e2
      rw [HMK.out]
      simp only [intOf,Int.toNat_natCast]
      omega
theorem Qgh {w:World}{a:Addr}{y:Value} (hc:w.cell? a=some y) (hf:w.frozen? a=false) (x:Bool) (m:Mode):(store a (.bool x) m).run Tryz.prog w= .ok () (w.setCell a (.bool x)):=by
 rw [run_store Tryz.prog w a _ m rfl,hc]
 simp [hf]
theorem Qgi {w W:World}{p q:V8}{f:Nat->Value}{N c:Nat}{u:Value} (h:Ar2 w p q 4 f (.bool false) N c W) (hc:c < N) (hu:f c=u):Ar2 w p q 4 f (.bool false) N (c+1) (W.setCell ⟨w.heap.size+3,c,none⟩ u):=by rw [<- hu];exact h.put hc
theorem Qeq (H:Nat->Prop) (f:Int) (R:Nat->Bool) (p q:V8) (m n N:Nat) (F G:Nat->Nat) (w:World) (hH:∀ b,H b->b < w.heap.size) (hL:lenP m n=some N) (hm:m<=1000000) (hn:n<=1000000)
  (hP:∀ W,Below w.heap.size w W->NumW p.v m F W) (hQ:∀ W,Below w.heap.size w W->NumW q.v n G W)
  (hone:∀ c,c < N->∀ W,Calls Tryz.prog 115 #[.int .i64 f,.float .f64 (F (ixP m c)),.float .f64 (G (ixP n c))] W fun e w'=>e= .returned (.tuple #[.bool (R c),.int .i64 0])/\W=w') :
  Calls Tryz.prog 65 #[.int .i64 f,.int .i64 (N:Int),p.v,q.v] w (VecR H w (fun u W=>NumV u 1 N (fun c=>Qai (R c)) W)):=by
 have hNb:N<=1000000:=Qfb hL hm hn
 have HP:=hD hP
 have HQ:=hD hQ
 have HONE:=hD hone
 have HH:=hD hH
 have HIX:=hD (fun c (hc:c < N)=>Qf2 hL hc)
 have hmk:=run_make_row' (P:=Tryz.prog) 72 4 (.bool false) 1 Tryz.underlying72 QbW rfl .i64 .i64 N (by omega) (by omega)
 obtain ⟨ff,hff⟩:∃ ff:Nat->Value,ff=fun c => .bool (R c):=⟨_,rfl⟩
 have HFF:Hid (∀ c,ff c= .bool (R c)):=fun c=>by rw [hff]
 clear hff
 have HA0:=hD (Ar2.new w p q 4 ff (.bool false) N (by unfold maxLen;omega))
 clear hP hQ hone hH hL
 go_enter Tryz.func65,Tryz.ntmps65
 go_wp2
 go_loopw [15] (fun j wr=>∃ c:Nat,c<=N/\j= .int .i64 c/\Ar2 w p q 4 ff (.bool false) N c wr) (fun j _=>N - (intOf j).toNat)
 case atStart=>exact ⟨0,Nat.zero_le _,rfl,HA0.out⟩
 case round =>
  clear HA0
  obtain ⟨c,hc,rfl,har⟩:=hrel
  have HAR:=hD har
  clear har
  by_cases hlt:c < N
  ·obtain ⟨hi1,hi2⟩:=HIX.out c hlt
   have HAP:=hD (fun W (hs:Ar2 w p q 4 ff (.bool false) N c W)=>QgW p m c W (fun W' hb=>(HP.out W' (Qaa hs.st.bel hb)).len))
   have HAQ:=hD (fun W (hs:Ar2 w p q 4 ff (.bool false) N c W)=>QgW q n c W (fun W' hb=>(HQ.out W' (Qaa hs.st.bel hb)).len))
   have HNP:=hD (fun W (hs:Ar2 w p q 4 ff (.bool false) N c W)=>(HP.out W hs.st.bel).num (ixP m c) hi1)
   have HNQ:=hD (fun W (hs:Ar2 w p q 4 ff (.bool false) N c W)=>(HQ.out W hs.st.bel).num (ixP n c) hi2)
   have HO:=hD (HONE.out c hlt)
   have HFC:=hD (HFF.out c)
   clear hi1 hi2
   generalize R c=y at HO HFC
   generalize F (ixP m c)=xa at *
   generalize G (ixP n c)=xb at *
   generalize ixP m c=ia at *
   generalize ixP n c=ib at *
   go_upto_block 1 with fail
   go_cut [10] from 17 to 36 (fun x wx=>x= .int .i64 (c:Int)/\Ar2 w p q 4 ff (.bool false) N (c+1) wx)
   case first =>
    go_wp2_with fail
    have hs0:=HAR.out.dr
    have hs00:=HAR.out
    have hss0:=hs0.st
    have hss00:=hs00.st
    have hrc:=HAR.out.fill.cell hlt
    have hrf:=HAR.out.fill.frozen c
    have hrz:w.heap.size+3 < wr.heap.size:=HAR.out.fill.low.2
    go_region_held3 (fun W=>St2C w W p q/\St2 w W p q)
     (first | with_reducible assumption | (with_reducible (refine QfQ ?_);repeat (first | with_reducible assumption | with_reducible refine St2.dr ?_ | (with_reducible refine St2.put ?_ (by first | assumption | omega | (simp;omega)) _))))
     (first
      | (go_at_call 115;(with_reducible refine (HO.out _).mono ?_);rintro e w5 ⟨rfl,rfl⟩)
      | (go_at_call 113;(with_reducible refine (HAP.out _ ?_).mono ?_);exact Ar2.self (by repeat (first | with_reducible assumption | with_reducible refine Ar2.dr ?_));rintro e w1 ⟨rfl,hb1⟩;obtain ⟨hc1,hf1⟩:=bcell2 hb1;have hz1:=hb1.size;have hst1:Ar2 w p q 4 ff (.bool false) N c w1:=Ar2.step (by repeat (first | with_reducible assumption | with_reducible refine Ar2.dr ?_)) hb1;have hss1:St2 w w1 p q:=hst1.st;have hcr1:=hst1.fill.cell hlt;have hfr1:=hst1.fill.frozen c;clear hb1)
      | (go_at_call 113;(with_reducible refine (HAQ.out _ ?_).mono ?_);exact Ar2.self (by repeat (first | with_reducible assumption | with_reducible refine Ar2.dr ?_));rintro e w2 ⟨rfl,hb2⟩;obtain ⟨hc2,hf2⟩:=bcell2 hb2;have hz2:=hb2.size;have hst2:Ar2 w p q 4 ff (.bool false) N c w2:=Ar2.step (by repeat (first | with_reducible assumption | with_reducible refine Ar2.dr ?_)) hb2;have hss2:St2 w w2 p q:=hst2.st;have hcr2:=hst2.fill.cell hlt;have hfr2:=hst2.fill.frozen c;clear hb2)
      | (go_at_call 92;(with_reducible refine (HNP.out _ ?_).mono ?_);exact Ar2.self (by repeat (first | with_reducible assumption | with_reducible refine Ar2.dr ?_));rintro e w3 ⟨rfl,hb3⟩;obtain ⟨hc3,hf3⟩:=bcell2 hb3;have hz3:=hb3.size;have hst3:Ar2 w p q 4 ff (.bool false) N c w3:=Ar2.step (by repeat (first | with_reducible assumption | with_reducible refine Ar2.dr ?_)) hb3;have hss3:St2 w w3 p q:=hst3.st;have hcr3:=hst3.fill.cell hlt;have hfr3:=hst3.fill.frozen c;clear hb3)
      | (go_at_call 92;(with_reducible refine (HNQ.out _ ?_).mono ?_);exact Ar2.self (by repeat (first | with_reducible assumption | with_reducible refine Ar2.dr ?_));rintro e w4 ⟨rfl,hb4⟩;obtain ⟨hc4,hf4⟩:=bcell2 hb4;have hz4:=hb4.size;have hst4:Ar2 w p q 4 ff (.bool false) N c w4:=Ar2.step (by repeat (first | with_reducible assumption | with_reducible refine Ar2.dr ?_)) hb4;have hss4:St2 w w4 p q:=hst4.st;have hcr4:=hst4.fill.cell hlt;have hfr4:=hst4.fill.frozen c;clear hb4))
    all_goals
     go_wp2
     go_meet
     first
      | with_reducible exact ⟨rfl,Qgi hst4 hlt HFC.out⟩
      | with_reducible exact ⟨rfl,Qgi hst3 hlt HFC.out⟩
      | with_reducible exact ⟨rfl,Qgi hst2 hlt HFC.out⟩
      | with_reducible exact ⟨rfl,Qgi hst1 hlt HFC.out⟩
   case rest =>
    obtain ⟨rfl,har⟩:=hcut
    have HAR2:=hD har
    clear har HAR HAP HAQ HNP HNQ HO
    go_wp2
    go_roundw
    case rel=>exact ⟨c+1,by omega,by go_num,HAR2.out⟩
    case measure=>simp [intOf];omega
  ·obtain rfl:c=N:=by omega
   have HPK:=hD (QcV (w.heap.size+3) 0 c c R (by omega) (Nat.le_refl _) wr (fun i hi=>by
    rw [Nat.zero_add,HAR.out.fill.done i hi (Nat.le_refl _),HFF.out]))
   go_wp2_with fail
   refine HPK.out.mono ?_
   rintro e w5 ⟨gg,rfl,hr5,hb5⟩
   have HS5:=hD (HAR.out.st.step hb5)
   have HGW:Hid (wr.heap.size<=gg):=hr5.low.1
   have HGS:Hid (w.heap.size+3<=wr.heap.size):=HAR.out.st.sz
   have HR5:=hD hr5
   clear hb5 hr5
   go_wp2_with fail
   refine (QbJ _ _ _ _ _).mono ?_
   rintro e w6 ⟨rfl,hb6⟩
   have HS6:=hD (HS5.out.step hb6)
   have HR6:=hD (HR5.out.below hb6)
   clear hb6
   have HRE:=hD (Qad HS6.out.res (.int .i64 1) (.slice (some ⟨gg,0,none⟩) ((c+63) / 64) ((c+63) / 64)) (.int .i64 (c:Int)) vnil vnil vnil vnil vnil)
   have HBE:=hD (Qac HS6.out.bel (Nat.le_add_right _ 2) (.int .i64 1) (.slice (some ⟨gg,0,none⟩) ((c+63) / 64) ((c+63) / 64)) (.int .i64 (c:Int)) vnil vnil vnil vnil vnil)
   have HKE:Hid (Keeps H (set8 w6 (w.heap.size+2) (.int .i64 1) (.slice (some ⟨gg,0,none⟩) ((c+63) / 64) ((c+63) / 64)) (.int .i64 (c:Int)) vnil vnil vnil vnil vnil) (NumV (vecW 1 (some ⟨gg,0,none⟩,(c+63) / 64,(c+63) / 64) (c:Int) (none,0,0) (none,0,0) (none,0,0) (none,0,0) (none,0,0)) 1 c (fun c=>Qai (R c)))):=by
    have h1:Keeps (fun j=>H j\/j=w.heap.size+2) w6 (fun W=>Reads1 W (.slice (some ⟨gg,0,none⟩) ((c+63) / 64) ((c+63) / 64)) ((List.range ((c+63) / 64)).map fun j => .int .u64 (packW R c j:Nat))) :=
     Own1.keepsH HR6.out (fun j e=>by
      have h1:=HGW.out
      have h2:=HGS.out
      rcases e with e | e
      ·have:=HH.out j e;omega
      ·omega)
    refine ((h1.imp fun W' h=>QbV (by omega) ⟨_,rfl,⟨gg,0,_,rfl,fun j hj=>?_⟩⟩).set8 (.inr rfl) _ _ _ _ _ _ _ _).sub fun _ _ e => .inl e
    exact Qbh h j hj
   clear HR5 HR6
   obtain ⟨⟨h0,h1,h2,h3,h4,h5,h6,h7⟩,hz⟩:=Qag HS6.out.res
   go_wp2
   refine bodyPost_ret (Qbp rfl _ _ _ rfl HRE.out) rfl ?_
   exact ⟨1,(some ⟨gg,0,none⟩,(c+63) / 64,(c+63) / 64),(c:Int),(none,0,0),(none,0,0),(none,0,0),(none,0,0),(none,0,0),rfl,HKE.out,HBE.out⟩
theorem Qm7 (t:Bool):Qb6 (Qai t)=1:=by
 rw [QgI,QeG (Qe1 _)]
 cases t <;> rfl
theorem Qfq (F:Nat->Nat) (n:Nat) (L:Nat->Bool) (h:∀ j,j < n->F j=Qai (L j)):leastF F n=1:=by
 induction n with
 | zero=>rfl
 | succ n ih =>
  have h1:=ih fun j hj=>h j (by omega)
  show max (leastF F n) (Qb6 (F n))=1
  rw [h1,h n (by omega),Qm7]
  rfl
structure Pk1 (w:World) (k:Int) (b:Sl) (bn:Int) (s i f c x:Sl) (G:Nat) (e:TypeId) (g:Nat->Value) (z:Value) (m a:Nat) (W:World):Prop where
 st:St w W k (.slice b.1 b.2.1 b.2.2) bn (.slice s.1 s.2.1 s.2.2) (.slice i.1 i.2.1 i.2.2) (.slice f.1 f.2.1 f.2.2) (.slice c.1 c.2.1 c.2.2) (.slice x.1 x.2.1 x.2.2)
 fill:Fill W (w.heap.size+2) G e g z m a
theorem Pk1.step {w W W':World}{k:Int}{b:Sl}{bn:Int}{s i f c x:Sl}{G:Nat}{e:TypeId}{g:Nat->Value}{z:Value}{m a:Nat} (h:Pk1 w k b bn s i f c x G e g z m a W) (hb:Below W.heap.size W W'):Pk1 w k b bn s i f c x G e g z m a W':=⟨h.st.step hb,h.fill.below hb⟩
theorem Pk1.put {w W:World}{k:Int}{b:Sl}{bn:Int}{s i f c x:Sl}{G:Nat}{e:TypeId}{g:Nat->Value}{z:Value}{m a:Nat} (h:Pk1 w k b bn s i f c x G e g z m a W) (ha:a < m){u:Value} (hu:g a=u):Pk1 w k b bn s i f c x G e g z m (a+1) (W.setCell ⟨G,a,none⟩ u):=by
 rw [<- hu]
 exact ⟨h.st.put h.fill.low.1 _,h.fill.put ha⟩
theorem QhW (H:Nat->Prop) (b:Sl) (bn:Int) (s i f c x:Sl) (n m:Nat) (K:Nat->Nat) (va:Value) (w:World) (hH:∀ b,H b->b < w.heap.size) (hn:n<=1000000) (hm:m<=1000000) (L:Nat->Bool) (hb:BitsAt w b n L) (hbn:bn=(n:Int)) (hK:∀ j,j < m->K j < n) (hva:Reads1 w va ((List.range m).map fun j => .int .i64 (K j:Int))) :
  Calls Tryz.prog 131 #[vecW 1 b bn s i f c x,va] w (VecR H w (fun u W=>NumV u 1 m (fun j=>Qai (L (K j))) W)):=by
 obtain ⟨A,cap,rfl,hcell⟩:=Qbg hva
 subst hbn
 have HC:=hD hcell
 have HAT:=hD (fun W (hw:Below w.heap.size w W) j (hj:j < m)=>QgJ (s := .slice b.1 b.2.1 b.2.2) (by omega) (hb.below hw).in (K j) (hK j hj))
 have HH:=hD hH
 have HPK:=hD (fun W=>Qbi b (n:Int) (.slice s.1 s.2.1 s.2.2) (.slice i.1 i.2.1 i.2.2) (.slice f.1 f.2.1 f.2.2) (.slice c.1 c.2.1 c.2.2) (.slice x.1 x.2.1 x.2.2) W)
 obtain ⟨ff,hff⟩:∃ ff:Nat->Value,ff=fun j => .bool (L (K j)):=⟨_,rfl⟩
 have HFF:Hid (∀ j,ff j= .bool (L (K j))):=fun j=>by rw [hff]
 have HS0:=hD (St.new w 1 (.slice b.1 b.2.1 b.2.2) (n:Int) (.slice s.1 s.2.1 s.2.2) (.slice i.1 i.2.1 i.2.2) (.slice f.1 f.2.1 f.2.2) (.slice c.1 c.2.1 c.2.2) (.slice x.1 x.2.1 x.2.2))
 have hmk:=run_make_row' (P:=Tryz.prog) 72 4 (.bool false) 1 Tryz.underlying72 QbW rfl .i64 .i64 m (by omega) (by omega)
 clear hff hva hb hK hH hcell
 go_enter Tryz.func131,Tryz.ntmps131
 go_wp2_with fail
 refine (HPK.out _).mono ?_
 rintro e w1 ⟨rfl,hb⟩
 have HS1:=hD ((HS0.out.step hb).al (.cells #[.slice b.1 b.2.1 b.2.2,.int .i64 (n:Int)] 33))
 have HV1:=hD (heap_alloc_new w1 (.cells #[.slice b.1 b.2.1 b.2.2,.int .i64 (n:Int)] 33))
 clear hb
 obtain ⟨W1,hW1⟩:∃ W1,W1=w1.alloc (.cells #[.slice b.1 b.2.1 b.2.2,.int .i64 (n:Int)] 33):=⟨_,rfl⟩
 have HWE:=hD hW1
 have hWs:W1.heap.size=w1.heap.size+1:=by rw [hW1];simp
 have HWS:=hD hWs
 rw [<- hW1] at HS1 HV1
 have HP0:Hid (Pk1 w 1 b (n:Int) s i f c x (w1.heap.size+1) 4 ff (.bool false) m 0 (W1.alloc (.cells (madeCells #[.bool false] m) 4))):=⟨HS1.out.al _,by
  have h:=Fill.made W1 (w.heap.size+2) HS1.out.sz 4 ff (.bool false) m (by unfold maxLen;omega)
  rw [HWS.out] at h
  exact h⟩
 have HV2:Hid ((W1.alloc (.cells (madeCells #[.bool false] m) 4)).heap[w1.heap.size]?=some (.cells #[.slice b.1 b.2.1 b.2.2,.int .i64 (n:Int)] 33)):=by unfold Hid;rw [Below.heap_alloc _ _ _ (lt_of_block HV1.out)];exact HV1.out
 clear hW1 hWs
 go_wp2
 rw [<- HWE.out]
 go_loopw [8,9,20] (fun _ _ j wr=>∃ a:Nat,a<=m/\j= .int .i64 (a:Int)/\Pk1 w 1 b (n:Int) s i f c x (w1.heap.size+1) 4 ff (.bool false) m a wr/\wr.heap[w1.heap.size]?=some (.cells #[.slice b.1 b.2.1 b.2.2,.int .i64 (n:Int)] 33)) (fun _ _ j _=>m - (intOf j).toNat)
 case atStart=>exact ⟨0,Nat.zero_le _,rfl,HP0.out,HV2.out⟩
 case round =>
  clear HP0 HV2
  obtain ⟨a,ha,rfl,hp,hv⟩:=hrel
  have HP:=hD hp
  have HV:=hD hv
  clear hp
  by_cases hlt:a < m
  ·have hlt2:(a:Int) < (m:Int):=by omega
   obtain ⟨ab,ao,rfl,hce⟩:=HC.out a hlt
   have hat:=QaB HP.out.st.bel hce
   have HA:=hD (HAT.out wr HP.out.st.bel a hlt)
   have HFA:=hD (HFF.out a)
   obtain ⟨hv0,hv1,hvf⟩:=Qaj hv
   generalize L (K a)=y at HA HFA
   generalize K a=ka at HA hat
   clear hce hv
   go_wp2_with fail
   refine HA.out.mono ?_
   rintro e w3 ⟨rfl,hb3⟩
   have HP3:=hD (HP.out.step hb3)
   have HV3:=hD (show w3.heap[w1.heap.size]?=some (.cells #[.slice b.1 b.2.1 b.2.2,.int .i64 (n:Int)] 33) by rw [hb3.block _ (lt_of_block HV.out)];exact HV.out)
   have hc3:=HP3.out.fill.cell hlt
   have hz3:=HP3.out.fill.frozen a
   have hst:=fun md=>Qgh hc3 hz3 y md
   have HP4:=hD (HP3.out.put hlt HFA.out)
   have HV4:Hid ((w3.setCell ⟨w1.heap.size+1,a,none⟩ (.bool y)).heap[w1.heap.size]?=some (.cells #[.slice b.1 b.2.1 b.2.2,.int .i64 (n:Int)] 33)):=by unfold Hid;rw [Below.heap_setCell _ _ _ _ (by show w1.heap.size≠w1.heap.size+1;omega)];exact HV3.out
   clear hb3 hv0 hv1 hvf hat
   go_wp2
   go_roundw
   case rel=>exact ⟨a+1,by omega,by go_num,HP4.out,HV4.out⟩
   case measure=>simp [intOf];omega
  ·obtain rfl:a=m:=by omega
   have hge:¬ (a:Int) < (a:Int):=by omega
   have HPA:=hD (QcV (w1.heap.size+1) 0 a a (fun j=>L (K j)) (by omega) (Nat.le_refl _) wr (fun i hi=>by
    rw [Nat.zero_add,HP.out.fill.done i hi (Nat.le_refl _),HFF.out]))
   clear hv
   go_wp2_with fail
   refine HPA.out.mono ?_
   rintro e w5 ⟨gg,rfl,hr5,hb5⟩
   have HS5:=hD (HP.out.st.step hb5)
   have HGW:Hid (wr.heap.size<=gg):=hr5.low.1
   have HGS:Hid (w.heap.size+2<=wr.heap.size):=HP.out.st.sz
   have HR5:=hD hr5
   clear hb5 hr5
   go_wp2_with fail
   refine (QbJ _ _ _ _ _).mono ?_
   rintro e w6 ⟨rfl,hb6⟩
   have HS9:=hD (HS5.out.step hb6)
   have HR6:=hD (HR5.out.below hb6)
   clear hb6
   have HRE:=hD (Qad HS9.out.res (.int .i64 1) (.slice (some ⟨gg,0,none⟩) ((a+63) / 64) ((a+63) / 64)) (.int .i64 (a:Int)) vnil vnil vnil vnil vnil)
   have HBE:=hD (Qac HS9.out.bel (Nat.le_succ _) (.int .i64 1) (.slice (some ⟨gg,0,none⟩) ((a+63) / 64) ((a+63) / 64)) (.int .i64 (a:Int)) vnil vnil vnil vnil vnil)
   have HKE:Hid (Keeps H (set8 w6 (w.heap.size+1) (.int .i64 1) (.slice (some ⟨gg,0,none⟩) ((a+63) / 64) ((a+63) / 64)) (.int .i64 (a:Int)) vnil vnil vnil vnil vnil) (NumV (vecW 1 (some ⟨gg,0,none⟩,(a+63) / 64,(a+63) / 64) (a:Int) (none,0,0) (none,0,0) (none,0,0) (none,0,0) (none,0,0)) 1 a (fun j=>Qai (L (K j))))):=by
    have h1:Keeps (fun j=>H j\/j=w.heap.size+1) w6 (fun W=>Reads1 W (.slice (some ⟨gg,0,none⟩) ((a+63) / 64) ((a+63) / 64)) ((List.range ((a+63) / 64)).map fun j => .int .u64 (packW (fun j=>L (K j)) a j:Nat))) :=
     Own1.keepsH HR6.out (fun j e=>by
      have h1:=HGW.out
      have h2:=HGS.out
      rcases e with e | e
      ·have:=HH.out j e;omega
      ·omega)
    refine ((h1.imp fun W' h=>QbV (by omega) ⟨_,rfl,⟨gg,0,_,rfl,fun j hj=>?_⟩⟩).set8 (.inr rfl) _ _ _ _ _ _ _ _).sub fun _ _ e => .inl e
    exact Qbh h j hj
   clear HR5 HR6
   obtain ⟨⟨h0,h1,h2,h3,h4,h5,h6,h7⟩,hz⟩:=Qag HS9.out.res
   go_wp2
   refine bodyPost_ret (Qbp (fn:=Tryz.f131) (p:=4) rfl _ _ (w.heap.size+1) (by rfl) HRE.out) rfl ?_
   exact ⟨1,(some ⟨gg,0,none⟩,(a+63) / 64,(a+63) / 64),(a:Int),(none,0,0),(none,0,0),(none,0,0),(none,0,0),(none,0,0),rfl,HKE.out,HBE.out⟩
theorem Qtq (H:Nat->Prop) (b:Sl) (bn:Int) (s i f c x:Sl) (n m:Nat) (F:Nat->Nat) (K:Nat->Nat) (va:Value) (w:World) (hH:∀ b,H b->b < w.heap.size) (hn:n<=1000000) (hm:m<=1000000) (hv:Keeps H w (NumV (vecW 1 b bn s i f c x) 1 n F)) (hK:∀ j,j < m->K j < n) (hva:Reads1 w va ((List.range m).map fun j => .int .i64 (K j:Int))) :
  Calls Tryz.prog 83 #[vecW 1 b bn s i f c x,va] w (VecR H w (fun u W=>NumV u (leastF (fun j=>F (K j)) m:Nat) m (fun j=>F (K j)) W)):=by
 obtain ⟨hbn,L,hbt,hFL⟩:=NumV.bits hv.now
 have hleast:leastF (fun j=>F (K j)) m=1:=Qfq _ m (fun j=>L (K j)) fun j hj=>hFL _ (hK j hj)
 rw [hleast]
 have hsame:∀ j,j < m->(fun j=>F (K j)) j=(fun j=>Qai (L (K j))) j:=fun j hj=>hFL _ (hK j hj)
 have HSM:=hD hsame
 obtain ⟨A,cap,hAc,hcell⟩:=Qbg hva
 have HPB:=hD (fun W (hb:Below w.heap.size w W)=>QhW (fun j=>H j\/j=w.heap.size+1) b bn s i f c x n m K va W)
 have HHH:=hD (fun W (hb:Below w.heap.size w W) (hz:w.heap.size+2<=W.heap.size)=>HPB.out W hb (fun j e=>by rcases e with e | e;(have:=hH j e;omega);omega) hn hm L (hbt.below hb) hbn hK (hva.below hb))
 subst hAc
 skip
 have HS0:=hD (St.new w 1 (.slice b.1 b.2.1 b.2.2) bn (.slice s.1 s.2.1 s.2.2) (.slice i.1 i.2.1 i.2.2) (.slice f.1 f.2.1 f.2.2) (.slice c.1 c.2.1 c.2.2) (.slice x.1 x.2.1 x.2.2))
 clear hv hK hva hH hcell hbt hFL hleast HPB hsame hbn
 go_enter Tryz.func83,Tryz.ntmps83
 go_wp2_with fail
 refine (QaY 1 _ _ _ _ _ _ _ _).mono ?_
 rintro e w1 ⟨rfl,hb⟩
 have HS1:=hD (HS0.out.step hb)
 clear hb
 obtain ⟨h0,h1,h2,h3,h4,h5,h6,h7⟩:=HS1.out.box
 go_wp2_with fail
 refine (HHH.out _ HS1.out.bel HS1.out.sz).mono ?_
 rintro e w5 ⟨k5,b5,bn5,s5,i5,f5,c5,x5,rfl,hk,hb⟩
 have HS9:=hD (HS1.out.step hb)
 have HK5:=hD hk
 clear hb hk h0 h1 h2 h3 h4 h5 h6 h7
 have HKF:=hD (((HK5.out).set8 (.inr rfl) (.int .i64 k5) (.slice b5.1 b5.2.1 b5.2.2) (.int .i64 bn5) (.slice s5.1 s5.2.1 s5.2.2) (.slice i5.1 i5.2.1 i5.2.2) (.slice f5.1 f5.2.1 f5.2.2) (.slice c5.1 c5.2.1 c5.2.2) (.slice x5.1 x5.2.1 x5.2.2)).sub (H':=H) fun _ _ e => .inl e)
 have HBE:=hD (Qac HS9.out.bel (Nat.le_succ _) (.int .i64 k5) (.slice b5.1 b5.2.1 b5.2.2) (.int .i64 bn5) (.slice s5.1 s5.2.1 s5.2.2) (.slice i5.1 i5.2.1 i5.2.2) (.slice f5.1 f5.2.1 f5.2.2) (.slice c5.1 c5.2.1 c5.2.2) (.slice x5.1 x5.2.1 x5.2.2))
 have HRE:=hD (Qad HS9.out.res (.int .i64 k5) (.slice b5.1 b5.2.1 b5.2.2) (.int .i64 bn5) (.slice s5.1 s5.2.1 s5.2.2) (.slice i5.1 i5.2.1 i5.2.2) (.slice f5.1 f5.2.1 f5.2.2) (.slice c5.1 c5.2.1 c5.2.2) (.slice x5.1 x5.2.1 x5.2.2))
 obtain ⟨⟨h0,h1,h2,h3,h4,h5,h6,h7⟩,hz⟩:=Qag HS9.out.res
 go_wp2
 refine bodyPost_ret (Qbp (fn:=Tryz.f83) (p:=4) rfl _ _ (w.heap.size+1) (by rfl) HRE.out) rfl ?_
 exact ⟨k5,b5,bn5,s5,i5,f5,c5,x5,rfl,HKF.out.imp fun W h=>h.congr HSM.out,HBE.out⟩
theorem Qtr (H:Nat->Prop) (b:Sl) (bn:Int) (s i f c x:Sl) (n m:Nat) (F:Nat->Nat) (K:Nat->Nat) (va:Value) (w:World) (hH:∀ b,H b->b < w.heap.size) (hm:m<=1000000) (hv:Keeps H w (NumV (vecW 2 b bn s i f c x) 2 n F)) (hK:∀ j,j < m->K j < n) (hva:Reads1 w va ((List.range m).map fun j => .int .i64 (K j:Int))) :
  Calls Tryz.prog 83 #[vecW 2 b bn s i f c x,va] w (VecR H w (fun u W=>NumV u (leastF (fun j=>F (K j)) m:Nat) m (fun j=>F (K j)) W)):=by
 have hz:∀ j,j < n->Good (zOf (F j))/\F j=fi (zOf (F j)):=fun j hj=>by
  obtain ⟨z,hg,e⟩:=hv.now.ints (by decide) j hj
  have e2:zOf (F j)=z:=by rw [e];exact Qen (QcH hg)
  rw [e2];exact ⟨hg,e⟩
 have HWH:=hD (fun W (hb:Below w.heap.size w W) j (hj:j < m)=>(hv.step hb).now.wholeI (by decide) (K j) (hK j hj) (zOf (F (K j))) (hz _ (hK j hj)).1 (hz _ (hK j hj)).2)
 have HGO:Hid (∀ j,j < m->Good (zOf (F (K j)))):=fun j hj=>(hz _ (hK j hj)).1
 have HFO:Hid (∀ j,j < m->F (K j)=fi (zOf (F (K j)))):=fun j hj=>(hz _ (hK j hj)).2
 obtain ⟨A,cap,rfl,hcell⟩:=Qbg hva
 have HC:=hD hcell
 have HH:=hD hH
 obtain ⟨ff,hff⟩:∃ ff:Nat->Value,ff=fun j => .int .i64 (zOf (F (K j))):=⟨_,rfl⟩
 have HFF:Hid (∀ j,ff j= .int .i64 (zOf (F (K j)))):=fun j=>by rw [hff]
 have HFE:=hD hff
 have hmk:=run_make_row' (P:=Tryz.prog) 35 2 (.int .i64 0) 8 Tryz.underlying35 Qgz rfl .i64 .i64 m (by omega) (by omega)
 have HS0:=hD (St.new w 2 (.slice b.1 b.2.1 b.2.2) bn (.slice s.1 s.2.1 s.2.2) (.slice i.1 i.2.1 i.2.2) (.slice f.1 f.2.1 f.2.2) (.slice c.1 c.2.1 c.2.2) (.slice x.1 x.2.1 x.2.2))
 clear hff hv hK hva hH hcell hz
 go_enter Tryz.func83,Tryz.ntmps83
 go_wp2_with fail
 refine (QaY 2 _ _ _ _ _ _ _ _).mono ?_
 rintro e w1 ⟨rfl,hb⟩
 have HS1:=hD (HS0.out.step hb)
 clear hb
 have HP0:Hid (Pk1 w 2 b bn s i f c x w1.heap.size 2 ff (.int .i64 0) m 0 (w1.alloc (.cells (madeCells #[.int .i64 0] m) 2))):=⟨HS1.out.al _,Fill.made w1 (w.heap.size+2) HS1.out.sz 2 ff (.int .i64 0) m (by unfold maxLen;omega)⟩
 go_wp2
 go_loopw [6,7,30] (fun _ _ j wr=>∃ a:Nat,a<=m/\j= .int .i64 (a:Int)/\Pk1 w 2 b bn s i f c x w1.heap.size 2 ff (.int .i64 0) m a wr) (fun _ _ j _=>m - (intOf j).toNat)
 case atStart=>exact ⟨0,Nat.zero_le _,rfl,HP0.out⟩
 case round =>
  clear HP0
  obtain ⟨a,ha,rfl,hp⟩:=hrel
  have HP:=hD hp
  clear hp
  by_cases hlt:a < m
  ·have hlt2:(a:Int) < (m:Int):=by omega
   obtain ⟨ab,ao,rfl,hce⟩:=HC.out a hlt
   have hat:=QaB HP.out.st.bel hce
   have HA:=hD (HWH.out wr HP.out.st.bel a hlt)
   have HFA:=hD (HFF.out a)
   obtain ⟨h0,h1,h2,h3,h4,h5,h6,h7⟩:=HP.out.st.box
   generalize zOf (F (K a))=y at HA HFA
   generalize K a=ka at HA hat
   clear hce
   go_wp2_with fail
   refine HA.out.mono ?_
   rintro e w3 ⟨rfl,hb3⟩
   have HP3:=hD (HP.out.step hb3)
   have hc3:=HP3.out.fill.cell hlt
   have hz3:=HP3.out.fill.frozen a
   have HP4:=hD (HP3.out.put hlt HFA.out)
   clear hb3 hat h0 h1 h2 h3 h4 h5 h6 h7
   go_wp2
   go_roundw
   case rel=>exact ⟨a+1,by omega,by go_num,HP4.out⟩
   case measure=>simp [intOf];omega
  ·obtain rfl:a=m:=by omega
   have hge:¬ (a:Int) < (a:Int):=by omega
   have HI:=hD (QgA (l:=(List.range a).map fun j=>zOf (F (K j))) (by rw [List.map_map];have h:=HP.out.fill.own.reads;rw [HFE.out] at h;exact h) (by simpa using hm) (fun y hy=>by
    obtain ⟨j,hj,rfl⟩:=List.mem_map.1 hy
    exact HGO.out j (List.mem_range.1 hj)))
   go_wp2_with fail
   refine HI.out.mono ?_
   rintro e w2 ⟨u,rfl,hou,hb2⟩
   rw [List.map_map] at hou
   have HS2:=hD (HP.out.st.step hb2)
   have HU:=hD (hou.lower (show w.heap.size+2<=wr.heap.size from HP.out.st.sz))
   obtain ⟨ua,un,uc,hu⟩:∃ a n c,u= .slice a n c:=by obtain ⟨a,c,e⟩:=hou.reads.len;exact ⟨a,_,c,e⟩
   subst hu
   clear hb2 hou
   have HS3:=hD (HS2.out.al (.cells #[.int .i64 3,vnil,.int .i64 0,vnil,.slice ua un uc,vnil,vnil,vnil] 39))
   have HKV2:Hid (Keeps (fun j=>H j\/j=w.heap.size+1) (w2.alloc (.cells #[.int .i64 3,vnil,.int .i64 0,vnil,.slice ua un uc,vnil,vnil,vnil] 39)) (NumV (vecW 3 (none,0,0) 0 (none,0,0) (ua,un,uc) (none,0,0) (none,0,0) (none,0,0)) 3 a (fun j=>F (K j)))) :=
    ((HU.out.keepsH (fun j e=>by rcases e with e | e;have:=HH.out j e;omega;omega)).imp fun W' h2=>(Qe2 ⟨⟨_,rfl,h2⟩,HGO.out⟩).congr HFO.out).step (bel1 w2 _)
   have HQ3:=hD (Qcv (fun j=>H j\/j=w.heap.size+1) 3 (none,0,0) 0 (none,0,0) (ua,un,uc) (none,0,0) (none,0,0) (none,0,0) a (fun j=>F (K j)) _ (fun j e=>by
    have h1:=HS3.out.sz
    rcases e with e | e
    ·have:=HH.out j e;omega
    ·omega) hm HKV2.out)
   go_wp2_with fail
   refine HQ3.out.mono ?_
   rintro e w4 ⟨k5,b5,bn5,s5,i5,f5,c5,x5,rfl,hk5,hb4⟩
   have HS9:=hD (HS3.out.step hb4)
   have HK5:=hD hk5
   clear hb4 hk5
   have HKF:=hD (((HK5.out).set8 (.inr rfl) (.int .i64 k5) (.slice b5.1 b5.2.1 b5.2.2) (.int .i64 bn5) (.slice s5.1 s5.2.1 s5.2.2) (.slice i5.1 i5.2.1 i5.2.2) (.slice f5.1 f5.2.1 f5.2.2) (.slice c5.1 c5.2.1 c5.2.2) (.slice x5.1 x5.2.1 x5.2.2)).sub (H':=H) fun _ _ e => .inl e)
   have HBE:=hD (Qac HS9.out.bel (Nat.le_succ _) (.int .i64 k5) (.slice b5.1 b5.2.1 b5.2.2) (.int .i64 bn5) (.slice s5.1 s5.2.1 s5.2.2) (.slice i5.1 i5.2.1 i5.2.2) (.slice f5.1 f5.2.1 f5.2.2) (.slice c5.1 c5.2.1 c5.2.2) (.slice x5.1 x5.2.1 x5.2.2))
   have HRE:=hD (Qad HS9.out.res (.int .i64 k5) (.slice b5.1 b5.2.1 b5.2.2) (.int .i64 bn5) (.slice s5.1 s5.2.1 s5.2.2) (.slice i5.1 i5.2.1 i5.2.2) (.slice f5.1 f5.2.1 f5.2.2) (.slice c5.1 c5.2.1 c5.2.2) (.slice x5.1 x5.2.1 x5.2.2))
   obtain ⟨⟨h0,h1,h2,h3,h4,h5,h6,h7⟩,hz⟩:=Qag HS9.out.res
   go_wp2
   refine bodyPost_ret (Qbp (fn:=Tryz.f83) (p:=4) rfl _ _ (w.heap.size+1) (by rfl) HRE.out) rfl ?_
   exact ⟨k5,b5,bn5,s5,i5,f5,c5,x5,rfl,HKF.out,HBE.out⟩
theorem Qts (H:Nat->Prop) (b:Sl) (bn:Int) (s i f c x:Sl) (n m:Nat) (F:Nat->Nat) (K:Nat->Nat) (va:Value) (w:World) (hH:∀ b,H b->b < w.heap.size) (hm:m<=1000000) (hv:Keeps H w (NumV (vecW 3 b bn s i f c x) 3 n F)) (hK:∀ j,j < m->K j < n) (hva:Reads1 w va ((List.range m).map fun j => .int .i64 (K j:Int))) :
  Calls Tryz.prog 83 #[vecW 3 b bn s i f c x,va] w (VecR H w (fun u W=>NumV u (leastF (fun j=>F (K j)) m:Nat) m (fun j=>F (K j)) W)):=by
 have hz:∀ j,j < n->Good (zOf (F j))/\F j=fi (zOf (F j)):=fun j hj=>by
  obtain ⟨z,hg,e⟩:=hv.now.ints (by decide) j hj
  have e2:zOf (F j)=z:=by rw [e];exact Qen (QcH hg)
  rw [e2];exact ⟨hg,e⟩
 have HWH:=hD (fun W (hb:Below w.heap.size w W) j (hj:j < m)=>(hv.step hb).now.wholeI (by decide) (K j) (hK j hj) (zOf (F (K j))) (hz _ (hK j hj)).1 (hz _ (hK j hj)).2)
 have HGO:Hid (∀ j,j < m->Good (zOf (F (K j)))):=fun j hj=>(hz _ (hK j hj)).1
 have HFO:Hid (∀ j,j < m->F (K j)=fi (zOf (F (K j)))):=fun j hj=>(hz _ (hK j hj)).2
 obtain ⟨A,cap,rfl,hcell⟩:=Qbg hva
 have HC:=hD hcell
 have HH:=hD hH
 obtain ⟨ff,hff⟩:∃ ff:Nat->Value,ff=fun j => .int .i64 (zOf (F (K j))):=⟨_,rfl⟩
 have HFF:Hid (∀ j,ff j= .int .i64 (zOf (F (K j)))):=fun j=>by rw [hff]
 have HFE:=hD hff
 have hmk:=run_make_row' (P:=Tryz.prog) 35 2 (.int .i64 0) 8 Tryz.underlying35 Qgz rfl .i64 .i64 m (by omega) (by omega)
 have HS0:=hD (St.new w 3 (.slice b.1 b.2.1 b.2.2) bn (.slice s.1 s.2.1 s.2.2) (.slice i.1 i.2.1 i.2.2) (.slice f.1 f.2.1 f.2.2) (.slice c.1 c.2.1 c.2.2) (.slice x.1 x.2.1 x.2.2))
 clear hff hv hK hva hH hcell hz
 go_enter Tryz.func83,Tryz.ntmps83
 go_wp2_with fail
 refine (QaY 3 _ _ _ _ _ _ _ _).mono ?_
 rintro e w1 ⟨rfl,hb⟩
 have HS1:=hD (HS0.out.step hb)
 clear hb
 have HP0:Hid (Pk1 w 3 b bn s i f c x w1.heap.size 2 ff (.int .i64 0) m 0 (w1.alloc (.cells (madeCells #[.int .i64 0] m) 2))):=⟨HS1.out.al _,Fill.made w1 (w.heap.size+2) HS1.out.sz 2 ff (.int .i64 0) m (by unfold maxLen;omega)⟩
 go_wp2
 go_loopw [6,7,30] (fun _ _ j wr=>∃ a:Nat,a<=m/\j= .int .i64 (a:Int)/\Pk1 w 3 b bn s i f c x w1.heap.size 2 ff (.int .i64 0) m a wr) (fun _ _ j _=>m - (intOf j).toNat)
 case atStart=>exact ⟨0,Nat.zero_le _,rfl,HP0.out⟩
 case round =>
  clear HP0
  obtain ⟨a,ha,rfl,hp⟩:=hrel
  have HP:=hD hp
  clear hp
  by_cases hlt:a < m
  ·have hlt2:(a:Int) < (m:Int):=by omega
   obtain ⟨ab,ao,rfl,hce⟩:=HC.out a hlt
   have hat:=QaB HP.out.st.bel hce
   have HA:=hD (HWH.out wr HP.out.st.bel a hlt)
   have HFA:=hD (HFF.out a)
   obtain ⟨h0,h1,h2,h3,h4,h5,h6,h7⟩:=HP.out.st.box
   generalize zOf (F (K a))=y at HA HFA
   generalize K a=ka at HA hat
   clear hce
   go_wp2_with fail
   refine HA.out.mono ?_
   rintro e w3 ⟨rfl,hb3⟩
   have HP3:=hD (HP.out.step hb3)
   have hc3:=HP3.out.fill.cell hlt
   have hz3:=HP3.out.fill.frozen a
   have HP4:=hD (HP3.out.put hlt HFA.out)
   clear hb3 hat h0 h1 h2 h3 h4 h5 h6 h7
   go_wp2
   go_roundw
   case rel=>exact ⟨a+1,by omega,by go_num,HP4.out⟩
   case measure=>simp [intOf];omega
  ·obtain rfl:a=m:=by omega
   have hge:¬ (a:Int) < (a:Int):=by omega
   have HI:=hD (QgA (l:=(List.range a).map fun j=>zOf (F (K j))) (by rw [List.map_map];have h:=HP.out.fill.own.reads;rw [HFE.out] at h;exact h) (by simpa using hm) (fun y hy=>by
    obtain ⟨j,hj,rfl⟩:=List.mem_map.1 hy
    exact HGO.out j (List.mem_range.1 hj)))
   go_wp2_with fail
   refine HI.out.mono ?_
   rintro e w2 ⟨u,rfl,hou,hb2⟩
   rw [List.map_map] at hou
   have HS2:=hD (HP.out.st.step hb2)
   have HU:=hD (hou.lower (show w.heap.size+2<=wr.heap.size from HP.out.st.sz))
   obtain ⟨ua,un,uc,hu⟩:∃ a n c,u= .slice a n c:=by obtain ⟨a,c,e⟩:=hou.reads.len;exact ⟨a,_,c,e⟩
   subst hu
   clear hb2 hou
   have HS3:=hD (HS2.out.al (.cells #[.int .i64 3,vnil,.int .i64 0,vnil,.slice ua un uc,vnil,vnil,vnil] 39))
   have HKV2:Hid (Keeps (fun j=>H j\/j=w.heap.size+1) (w2.alloc (.cells #[.int .i64 3,vnil,.int .i64 0,vnil,.slice ua un uc,vnil,vnil,vnil] 39)) (NumV (vecW 3 (none,0,0) 0 (none,0,0) (ua,un,uc) (none,0,0) (none,0,0) (none,0,0)) 3 a (fun j=>F (K j)))) :=
    ((HU.out.keepsH (fun j e=>by rcases e with e | e;have:=HH.out j e;omega;omega)).imp fun W' h2=>(Qe2 ⟨⟨_,rfl,h2⟩,HGO.out⟩).congr HFO.out).step (bel1 w2 _)
   have HQ3:=hD (Qcv (fun j=>H j\/j=w.heap.size+1) 3 (none,0,0) 0 (none,0,0) (ua,un,uc) (none,0,0) (none,0,0) (none,0,0) a (fun j=>F (K j)) _ (fun j e=>by
    have h1:=HS3.out.sz
    rcases e with e | e
    ·have:=HH.out j e;omega
    ·omega) hm HKV2.out)
   go_wp2_with fail
   refine HQ3.out.mono ?_
   rintro e w4 ⟨k5,b5,bn5,s5,i5,f5,c5,x5,rfl,hk5,hb4⟩
   have HS9:=hD (HS3.out.step hb4)
   have HK5:=hD hk5
   clear hb4 hk5
   have HKF:=hD (((HK5.out).set8 (.inr rfl) (.int .i64 k5) (.slice b5.1 b5.2.1 b5.2.2) (.int .i64 bn5) (.slice s5.1 s5.2.1 s5.2.2) (.slice i5.1 i5.2.1 i5.2.2) (.slice f5.1 f5.2.1 f5.2.2) (.slice c5.1 c5.2.1 c5.2.2) (.slice x5.1 x5.2.1 x5.2.2)).sub (H':=H) fun _ _ e => .inl e)
   have HBE:=hD (Qac HS9.out.bel (Nat.le_succ _) (.int .i64 k5) (.slice b5.1 b5.2.1 b5.2.2) (.int .i64 bn5) (.slice s5.1 s5.2.1 s5.2.2) (.slice i5.1 i5.2.1 i5.2.2) (.slice f5.1 f5.2.1 f5.2.2) (.slice c5.1 c5.2.1 c5.2.2) (.slice x5.1 x5.2.1 x5.2.2))
   have HRE:=hD (Qad HS9.out.res (.int .i64 k5) (.slice b5.1 b5.2.1 b5.2.2) (.int .i64 bn5) (.slice s5.1 s5.2.1 s5.2.2) (.slice i5.1 i5.2.1 i5.2.2) (.slice f5.1 f5.2.1 f5.2.2) (.slice c5.1 c5.2.1 c5.2.2) (.slice x5.1 x5.2.1 x5.2.2))
   obtain ⟨⟨h0,h1,h2,h3,h4,h5,h6,h7⟩,hz⟩:=Qag HS9.out.res
   go_wp2
   refine bodyPost_ret (Qbp (fn:=Tryz.f83) (p:=4) rfl _ _ (w.heap.size+1) (by rfl) HRE.out) rfl ?_
   exact ⟨k5,b5,bn5,s5,i5,f5,c5,x5,rfl,HKF.out,HBE.out⟩
theorem QpI (v:V8) (j y:Nat) (w:World) (hN:∀ W,Below w.heap.size w W->Calls Tryz.prog 92 #[v.v,.int .i64 (j:Nat)] W fun e w2=>e= .returned (.float .f64 y)/\Below W.heap.size W w2) :
  Calls Tryz.prog 134 #[v.v,.int .i64 (j:Nat)] w fun e w'=>e= .returned (.float .f64 y)/\Below w.heap.size w w':=by
 have HB:=hD (bel1 w v.o)
 have HN:=hD (hN _ HB.out)
 clear hN
 go_enter Tryz.func134,Tryz.ntmps134
 go_wp2_with fail
 refine HN.out.mono ?_
 rintro e w1 ⟨rfl,hb⟩
 have HB1:=hD (Qaa HB.out hb)
 clear hb
 go_wp2
 go_ret
 exact ⟨rfl,HB1.out⟩
theorem Qtt (H:Nat->Prop) (b:Sl) (bn:Int) (s i f c x:Sl) (n m:Nat) (F:Nat->Nat) (K:Nat->Nat) (va:Value) (w:World) (hH:∀ b,H b->b < w.heap.size) (hm:m<=1000000) (hv:Keeps H w (NumV (vecW 4 b bn s i f c x) 4 n F)) (hK:∀ j,j < m->K j < n) (hva:Reads1 w va ((List.range m).map fun j => .int .i64 (K j:Int))) :
  Calls Tryz.prog 83 #[vecW 4 b bn s i f c x,va] w (VecR H w (fun u W=>NumV u (leastF (fun j=>F (K j)) m:Nat) m (fun j=>F (K j)) W)):=by
 have HWH:=hD (fun W (hb:Below w.heap.size w W) j (hj:j < m)=>QpI ⟨4,b,bn,s,i,f,c,x⟩ (K j) (F (K j)) W (fun W' hb'=>(hv.step (Qaa hb hb')).now.num (K j) (hK j hj)))
 have HTF:Hid (∀ j,j < m->TF (F (K j))):=fun j hj=>hv.now.tf _ (hK j hj)
 obtain ⟨A,cap,rfl,hcell⟩:=Qbg hva
 have HC:=hD hcell
 have HH:=hD hH
 obtain ⟨ff,hff⟩:∃ ff:Nat->Value,ff=fun j => .float .f64 (F (K j)):=⟨_,rfl⟩
 have HFF:Hid (∀ j,ff j= .float .f64 (F (K j))):=fun j=>by rw [hff]
 have HFE:=hD hff
 have hmk:=run_make_row' (P:=Tryz.prog) 36 60 (.float .f64 0) 8 Tryz.underlying36 Qds rfl .i64 .i64 m (by omega) (by omega)
 have HS0:=hD (St.new w 4 (.slice b.1 b.2.1 b.2.2) bn (.slice s.1 s.2.1 s.2.2) (.slice i.1 i.2.1 i.2.2) (.slice f.1 f.2.1 f.2.2) (.slice c.1 c.2.1 c.2.2) (.slice x.1 x.2.1 x.2.2))
 clear hff hv hK hva hH hcell
 go_enter Tryz.func83,Tryz.ntmps83
 go_wp2_with fail
 refine (QaY 4 _ _ _ _ _ _ _ _).mono ?_
 rintro e w1 ⟨rfl,hb⟩
 have HS1:=hD (HS0.out.step hb)
 clear hb
 have HP0:Hid (Pk1 w 4 b bn s i f c x w1.heap.size 60 ff (.float .f64 0) m 0 (w1.alloc (.cells (madeCells #[.float .f64 0] m) 60))):=⟨HS1.out.al _,Fill.made w1 (w.heap.size+2) HS1.out.sz 60 ff (.float .f64 0) m (by unfold maxLen;omega)⟩
 go_wp2
 go_loopw [11,12,59] (fun _ _ j wr=>∃ a:Nat,a<=m/\j= .int .i64 (a:Int)/\Pk1 w 4 b bn s i f c x w1.heap.size 60 ff (.float .f64 0) m a wr) (fun _ _ j _=>m - (intOf j).toNat)
 case atStart=>exact ⟨0,Nat.zero_le _,rfl,HP0.out⟩
 case round =>
  clear HP0
  obtain ⟨a,ha,rfl,hp⟩:=hrel
  have HP:=hD hp
  clear hp
  by_cases hlt:a < m
  ·have hlt2:(a:Int) < (m:Int):=by omega
   obtain ⟨ab,ao,rfl,hce⟩:=HC.out a hlt
   have hat:=QaB HP.out.st.bel hce
   have HA:=hD (HWH.out wr HP.out.st.bel a hlt)
   have HFA:=hD (HFF.out a)
   obtain ⟨h0,h1,h2,h3,h4,h5,h6,h7⟩:=HP.out.st.box
   generalize F (K a)=y at HA HFA
   generalize K a=ka at HA hat
   clear hce
   go_wp2_with fail
   refine HA.out.mono ?_
   rintro e w3 ⟨rfl,hb3⟩
   have HP3:=hD (HP.out.step hb3)
   have hc3:=HP3.out.fill.cell hlt
   have hz3:=HP3.out.fill.frozen a
   have hst:=fun md=>QaG hc3 hz3 .f64 y md
   have HP4:=hD (HP3.out.put hlt HFA.out)
   clear hb3 hat h0 h1 h2 h3 h4 h5 h6 h7
   go_wp2
   go_roundw
   case rel=>exact ⟨a+1,by omega,by go_num,HP4.out⟩
   case measure=>simp [intOf];omega
  ·obtain rfl:a=m:=by omega
   have hge:¬ (a:Int) < (a:Int):=by omega
   have HQ3:=hD (Qe9 (fun j=>H j\/j=w.heap.size+1) (.slice (some ⟨w1.heap.size,0,none⟩) a a) a (fun j=>F (K j)) wr (fun j e=>by
    have h1:=HP.out.st.sz
    rcases e with e | e
    ·have:=HH.out j e;omega
    ·omega) (by have h:=HP.out.fill.own.reads;rw [HFE.out] at h;exact h) hm HTF.out)
   go_wp2_with fail
   refine HQ3.out.mono ?_
   rintro e w4 ⟨k5,b5,bn5,s5,i5,f5,c5,x5,rfl,hk5,hb4⟩
   have HS9:=hD ((HP.out.st.step hb4).al (.cells #[.int .i64 k5,.slice b5.1 b5.2.1 b5.2.2,.int .i64 bn5,.slice s5.1 s5.2.1 s5.2.2,.slice i5.1 i5.2.1 i5.2.2,.slice f5.1 f5.2.1 f5.2.2,.slice c5.1 c5.2.1 c5.2.2,.slice x5.1 x5.2.1 x5.2.2] 39))
   have HK5:=hD (hk5.step (bel1 w4 (.cells #[.int .i64 k5,.slice b5.1 b5.2.1 b5.2.2,.int .i64 bn5,.slice s5.1 s5.2.1 s5.2.2,.slice i5.1 i5.2.1 i5.2.2,.slice f5.1 f5.2.1 f5.2.2,.slice c5.1 c5.2.1 c5.2.2,.slice x5.1 x5.2.1 x5.2.2] 39)))
   clear hb4 hk5
   have HKF:=hD (((HK5.out).set8 (.inr rfl) (.int .i64 k5) (.slice b5.1 b5.2.1 b5.2.2) (.int .i64 bn5) (.slice s5.1 s5.2.1 s5.2.2) (.slice i5.1 i5.2.1 i5.2.2) (.slice f5.1 f5.2.1 f5.2.2) (.slice c5.1 c5.2.1 c5.2.2) (.slice x5.1 x5.2.1 x5.2.2)).sub (H':=H) fun _ _ e => .inl e)
   have HBE:=hD (Qac HS9.out.bel (Nat.le_succ _) (.int .i64 k5) (.slice b5.1 b5.2.1 b5.2.2) (.int .i64 bn5) (.slice s5.1 s5.2.1 s5.2.2) (.slice i5.1 i5.2.1 i5.2.2) (.slice f5.1 f5.2.1 f5.2.2) (.slice c5.1 c5.2.1 c5.2.2) (.slice x5.1 x5.2.1 x5.2.2))
   have HRE:=hD (Qad HS9.out.res (.int .i64 k5) (.slice b5.1 b5.2.1 b5.2.2) (.int .i64 bn5) (.slice s5.1 s5.2.1 s5.2.2) (.slice i5.1 i5.2.1 i5.2.2) (.slice f5.1 f5.2.1 f5.2.2) (.slice c5.1 c5.2.1 c5.2.2) (.slice x5.1 x5.2.1 x5.2.2))
   obtain ⟨⟨h0,h1,h2,h3,h4,h5,h6,h7⟩,hz⟩:=Qag HS9.out.res
   go_wp2
   refine bodyPost_ret (Qbp (fn:=Tryz.f83) (p:=4) rfl _ _ (w.heap.size+1) (by rfl) HRE.out) rfl ?_
   exact ⟨k5,b5,bn5,s5,i5,f5,c5,x5,rfl,HKF.out,HBE.out⟩
theorem QpJ (H:Nat->Prop) (p:V8) (n m:Nat) (F:Nat->Nat) (K:Nat->Nat) (va:Value) (w:World) (hH:∀ b,H b->b < w.heap.size) (hn:n<=1000000) (hm:m<=1000000) (hv:Keeps H w (NumV p.v p.k n F)) (hK:∀ j,j < m->K j < n) (hva:Reads1 w va ((List.range m).map fun j => .int .i64 (K j:Int))) :
  Calls Tryz.prog 83 #[p.v,va] w (VecR H w (fun u W=>NumV u (leastF (fun j=>F (K j)) m:Nat) m (fun j=>F (K j)) W)):=by
 obtain ⟨k,b,bn,s,i,f,c,x⟩:=p
 have hk:=hv.now.kind
 dsimp only at hk hv
 rcases hk with rfl | rfl | rfl | rfl
 ·exact Qtq H b bn s i f c x n m F K va w hH hn hm hv hK hva
 ·exact Qtr H b bn s i f c x n m F K va w hH hm hv hK hva
 ·exact Qts H b bn s i f c x n m F K va w hH hm hv hK hva
 ·exact Qtt H b bn s i f c x n m F K va w hH hm hv hK hva
end Go.Proofs.YtdelgpelkfndeaaGreatDoor
