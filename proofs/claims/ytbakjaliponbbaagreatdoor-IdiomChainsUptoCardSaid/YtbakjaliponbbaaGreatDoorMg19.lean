/- A table in memory, and the walk of find. Printed by gen_htb.py. The walk of .. Conditions: as each theorem says. -/
import Derived.Test.YtbakjaliponbbaaGreatDoorMg18
import Derived.Test.YtbakjaliponbbaaGreatDoorMg12
import Derived.Deep.CutBlock
set_option maxRecDepth 100000
set_option maxHeartbeats 4000000
namespace Go.Proofs.YtbakjaliponbbaaGreatDoor
open Go Go.RowKit Go.Proofs Fl
theorem Own1.keep {w w':World}{B g n c:Nat}{e:TypeId}{xs:List Value} (h:Own1 w B e (.slice (some ⟨g,0,none⟩) n c) xs) (he:w'.heap[g]?=w.heap[g]?):Own1 w' B e (.slice (some ⟨g,0,none⟩) n c) xs:=by
 refine ⟨h.1,?_⟩
 rcases h.2 with h2 | ⟨g',cap,cur,hv,hbg,hg,r⟩
 ·exact .inl h2
 ·have:g'=g:=by injection hv with h1 _ _;injection h1 with h1;injection h1 with h1;exact h1.symm
  subst this
  exact .inr ⟨g',cap,cur,hv,hbg,by rw [he];exact hg,r⟩
structure TabM (B:Nat) (p:V8) (T g S:Nat) (L:List Int) (W:World):Prop where
 vec:BoxP W T p
 slot:W.cell? ⟨T,8,none⟩=some (.slice (some ⟨g,0,none⟩) S S)
 mask:W.cell? ⟨T,9,none⟩=some (.int .u64 ((S - 1:Nat):Int))
 row:Own1 W B 3 (.slice (some ⟨g,0,none⟩) S S) (L.map (Value.int .i64))
 len:L.length=S
 ne:T≠g
 low:B<=T
theorem TabM.lt {B:Nat}{p:V8}{T g S:Nat}{L:List Int}{W:World} (h:TabM B p T g S L W):T < W.heap.size/\B<=g/\g < W.heap.size:=⟨cell_lt h.slot,World.ownsRow.lt h.row g rfl⟩
theorem TabM.keep {B:Nat}{p:V8}{T g S:Nat}{L:List Int}{W W':World} (h:TabM B p T g S L W) (h1:W'.heap[T]?=W.heap[T]?) (h2:W'.heap[g]?=W.heap[g]?):TabM B p T g S L W':=by
 have e:∀ j,W'.cell? ⟨T,j,none⟩=W.cell? ⟨T,j,none⟩:=fun _=>World.cell?_of_block (w:=W) h1
 obtain ⟨v0,v1,v2,v3,v4,v5,v6,v7⟩:=h.vec
 exact ⟨⟨by rw [e];exact v0,by rw [e];exact v1,by rw [e];exact v2,by rw [e];exact v3,by rw [e];exact v4,by rw [e];exact v5,by rw [e];exact v6,by rw [e];exact v7⟩,by rw [e];exact h.slot,by rw [e];exact h.mask,h.row.keep h2,h.len,h.ne,h.low⟩
theorem TabM.step {B:Nat}{p:V8}{T g S:Nat}{L:List Int}{W W':World} (h:TabM B p T g S L W) (hb:Below W.heap.size W W'):TabM B p T g S L W':=h.keep (hb.block T h.lt.1) (hb.block g h.lt.2.2)
theorem TabM.at_ {B:Nat}{p:V8}{T g S:Nat}{L:List Int}{W:World} (h:TabM B p T g S L W){a:Nat} (ha:a < S):W.cell? ⟨g,a,none⟩=some (.int .i64 (L.getD a 0)):=by
 have hr:W.ownsRow B 3 1 (.slice (some ⟨g,0,none⟩) S S) S (L.map (Value.int .i64)):=by
  have h9:=h.row
  unfold Own1 at h9
  rw [List.length_map,h.len] at h9
  exact h9
 have h1:=World.ownsRow.cellAt hr a (by omega)
 have h2:a < L.length:=by rw [h.len];exact ha
 rw [h1]
 simp [List.getD,h2]
structure FM (B:Nat) (p q:V8) (T g S:Nat) (L:List Int) (w W:World):Prop where
 one:V1B w W q
 tab:TabM B p T g S L W
theorem FM.step {B:Nat}{p q:V8}{T g S:Nat}{L:List Int}{w W W':World} (h:FM B p q T g S L w W) (hb:Below W.heap.size W W'):FM B p q T g S L w W':=⟨h.one.step hb,h.tab.step hb⟩
theorem FM.dr {B:Nat}{p q:V8}{T g S:Nat}{L:List Int}{w W:World} (h:FM B p q T g S L w W):FM B p q T g S L w W.drew:=h.step (Below.refl _ W).drew
theorem FM.self {B:Nat}{p q:V8}{T g S:Nat}{L:List Int}{w W:World} (h:FM B p q T g S L w W):FM B p q T g S L w W:=h
theorem and_mask (x S m:Nat) (hS:S=2 ^ m) (hx:x < 18446744073709551616) (hm:S<=4194304):bits .and .u64 (x:Int) ((S - 1:Nat):Int)=((x % S:Nat):Int):=by
 rw [u64_and_nat x (S - 1) hx (by omega),hS,Nat.and_two_pow_sub_one_eq_mod]
def FndP (S:Nat) (L:List Int) (kn:Nat) (al:Nat->Bool) (pl:Nat):Prop :=
 ∃ d,d < S/\pl=(kn+d) % S/\(∀ d',d' < d->∃ j:Nat,L.getD ((kn+d') % S) 0=(j:Int)/\al j=false)/\(L.getD pl 0=-1\/∃ j:Nat,L.getD pl 0=(j:Int)/\al j=true)
def FindR (S:Nat) (L:List Int) (kn:Nat) (al:Nat->Bool) (w:World) (e:Ending) (w':World):Prop:=∃ pl:Nat,e= .returned (.int .i64 (pl:Int))/\FndP S L kn al pl/\Below w.heap.size w w'
theorem dist_eq (kn d S:Nat) (hd:d < S):((kn+d) % S+(S - kn % S)) % S=d:=by
 have h1:kn % S < S:=Nat.mod_lt _ (by omega)
 have h2:=Nat.div_add_mod kn S
 by_cases h3:kn % S+d < S
 ·have e:(kn+d) % S=kn % S+d:=by
   rw [show kn+d=S*(kn / S)+(kn % S+d) by omega,Nat.mul_add_mod,Nat.mod_eq_of_lt h3]
  rw [e,show kn % S+d+(S - kn % S)=d+S by omega,Nat.add_mod_right,Nat.mod_eq_of_lt hd]
 ·have e:(kn+d) % S=kn % S+d - S:=by
   rw [show kn+d=S*(kn / S)+(kn % S+d) by omega,Nat.mul_add_mod,Nat.mod_eq_sub_mod (by omega),Nat.mod_eq_of_lt (by omega)]
  rw [e,show kn % S+d - S+(S - kn % S)=d by omega,Nat.mod_eq_of_lt hd]
theorem fm_1 {B:Nat}{p q:V8}{T g S:Nat}{L:List Int}{w W:World} (h:FM B p q T g S L w W):(W.cell? ⟨w.heap.size,0,none⟩=some (.int .i64 q.k)/\W.cell? ⟨w.heap.size,1,none⟩=some (.slice q.b.1 q.b.2.1 q.b.2.2)/\W.cell? ⟨w.heap.size,2,none⟩=some (.int .i64 q.bn)/\W.cell? ⟨w.heap.size,3,none⟩=some (.slice q.s.1 q.s.2.1 q.s.2.2)/\W.cell? ⟨w.heap.size,4,none⟩=some (.slice q.i.1 q.i.2.1 q.i.2.2)/\W.cell? ⟨w.heap.size,5,none⟩=some (.slice q.f.1 q.f.2.1 q.f.2.2)/\W.cell? ⟨w.heap.size,6,none⟩=some (.slice q.c.1 q.c.2.1 q.c.2.2)/\W.cell? ⟨w.heap.size,7,none⟩=some (.slice q.x.1 q.x.2.1 q.x.2.2)/\W.cell? ⟨T,9,none⟩=some (.int .u64 ((S - 1:Nat):Int)))/\FM B p q T g S L w W:=by
 obtain ⟨c0,c1,c2,c3,c4,c5,c6,c7⟩:=h.one.one
 exact ⟨⟨c0,c1,c2,c3,c4,c5,c6,c7,h.tab.mask⟩,h⟩
theorem fm_2 {B:Nat}{p q:V8}{T g S:Nat}{L:List Int}{w W:World}{a:Nat}{X:Int} (ha:a < S) (hX:L.getD a 0=X) (h:FM B p q T g S L w W):(W.cell? ⟨w.heap.size,0,none⟩=some (.int .i64 q.k)/\W.cell? ⟨w.heap.size,1,none⟩=some (.slice q.b.1 q.b.2.1 q.b.2.2)/\W.cell? ⟨w.heap.size,2,none⟩=some (.int .i64 q.bn)/\W.cell? ⟨w.heap.size,3,none⟩=some (.slice q.s.1 q.s.2.1 q.s.2.2)/\W.cell? ⟨w.heap.size,4,none⟩=some (.slice q.i.1 q.i.2.1 q.i.2.2)/\W.cell? ⟨w.heap.size,5,none⟩=some (.slice q.f.1 q.f.2.1 q.f.2.2)/\W.cell? ⟨w.heap.size,6,none⟩=some (.slice q.c.1 q.c.2.1 q.c.2.2)/\W.cell? ⟨w.heap.size,7,none⟩=some (.slice q.x.1 q.x.2.1 q.x.2.2)/\W.cell? ⟨T,0,none⟩=some (.int .i64 p.k)/\W.cell? ⟨T,1,none⟩=some (.slice p.b.1 p.b.2.1 p.b.2.2)/\W.cell? ⟨T,2,none⟩=some (.int .i64 p.bn)/\W.cell? ⟨T,3,none⟩=some (.slice p.s.1 p.s.2.1 p.s.2.2)/\W.cell? ⟨T,4,none⟩=some (.slice p.i.1 p.i.2.1 p.i.2.2)/\W.cell? ⟨T,5,none⟩=some (.slice p.f.1 p.f.2.1 p.f.2.2)/\W.cell? ⟨T,6,none⟩=some (.slice p.c.1 p.c.2.1 p.c.2.2)/\W.cell? ⟨T,7,none⟩=some (.slice p.x.1 p.x.2.1 p.x.2.2)/\W.cell? ⟨T,8,none⟩=some (.slice (some ⟨g,0,none⟩) S S)/\W.cell? ⟨g,a,none⟩=some (.int .i64 X))/\FM B p q T g S L w W:=by
 obtain ⟨c0,c1,c2,c3,c4,c5,c6,c7⟩:=h.one.one
 obtain ⟨d0,d1,d2,d3,d4,d5,d6,d7⟩:=h.tab.vec
 exact ⟨⟨c0,c1,c2,c3,c4,c5,c6,c7,d0,d1,d2,d3,d4,d5,d6,d7,h.tab.slot,hX▸h.tab.at_ ha⟩,h⟩
theorem find_any {B:Nat}{p q:V8}{T g S m:Nat}{L:List Int} (hS:S=2 ^ m) (hS2:S<=4194304) (w:World) (ht:TabM B p T g S L w) (kz:Int) (hkz:InK kz) (k n:Nat) (al:Nat->Bool)
  (hL:∀ x,x < S->L.getD x 0=-1\/∃ j:Nat,j < n/\L.getD x 0=(j:Int)) (hfree:∃ d,d < S/\L.getD ((kz.toNat+d) % S) 0=-1)
  (hKE:∀ W,Below w.heap.size w W->Calls Tryz.prog 239 #[q.v,.int .i64 (k:Int)] W (KeyR kz W))
  (hAL:∀ j,j < n->∀ W,Below w.heap.size w W->Calls Tryz.prog 240 #[p.v,.int .i64 (j:Int),q.v,.int .i64 (k:Int)] W fun e w'=>e= .returned (.bool (al j))/\Below W.heap.size W w') :
  Calls Tryz.prog 196 #[.pointer (some ⟨T,0,none⟩),q.v,.int .i64 (k:Int)] w (FindR S L kz.toNat al w):=by
 obtain ⟨kn,hkn⟩:∃ kn:Nat,kz=(kn:Int):=⟨kz.toNat,by have:=hkz.1;omega⟩
 subst hkn
 have hk64:kn < 18446744073709551616:=by have:=hkz.2;omega
 rw [Int.toNat_natCast] at hfree ⊢
 have hSp:0 < S:=by obtain ⟨d,hd,_⟩:=hfree;omega
 have HM:=Lib.hid (and_mask kn S m hS hk64 hS2)
 have HM2:=Lib.hid (fun x (hx:x < 18446744073709551616)=>and_mask x S m hS hx hS2)
 obtain ⟨df,hdf,hfr⟩:=hfree
 have HFR:=Lib.hid hfr
 have HL:=Lib.hid hL
 have HKE:=Lib.hid hKE
 have HAL:=Lib.hid hAL
 have HS0:Hid (FM B p q T g S L w (w.alloc q.o)):=⟨V1B.new w q,ht.step (bel1 w _)⟩
 clear ht hkz hL hfr hKE hAL hS
 unfold KeyR at HKE
 unfold FindR
 go_enter Tryz.func196,Tryz.ntmps196
 go_wp2_with fail
 obtain ⟨wz,hwz⟩:∃ wz,wz=w.alloc q.o:=⟨_,rfl⟩
 rw [<- hwz] at HS0
 have HWZ:=Lib.hid hwz
 clear hwz
 rw [<- HWZ.out]
 go_cut [7] from 7 (fun x wx=>x= .int .u64 ((kn % S:Nat):Int)/\FM B p q T g S L w wx)
 case first =>
  have hs0:=HS0.out.dr
  have hs00:=HS0.out
  have hm:=HM.out
  go_region_held3 (fun W=>(W.cell? ⟨w.heap.size,0,none⟩=some (.int .i64 q.k)/\W.cell? ⟨w.heap.size,1,none⟩=some (.slice q.b.1 q.b.2.1 q.b.2.2)/\W.cell? ⟨w.heap.size,2,none⟩=some (.int .i64 q.bn)/\W.cell? ⟨w.heap.size,3,none⟩=some (.slice q.s.1 q.s.2.1 q.s.2.2)/\W.cell? ⟨w.heap.size,4,none⟩=some (.slice q.i.1 q.i.2.1 q.i.2.2)/\W.cell? ⟨w.heap.size,5,none⟩=some (.slice q.f.1 q.f.2.1 q.f.2.2)/\W.cell? ⟨w.heap.size,6,none⟩=some (.slice q.c.1 q.c.2.1 q.c.2.2)/\W.cell? ⟨w.heap.size,7,none⟩=some (.slice q.x.1 q.x.2.1 q.x.2.2)/\W.cell? ⟨T,9,none⟩=some (.int .u64 ((S - 1:Nat):Int)))/\FM B p q T g S L w W)
   (first | (with_reducible assumption) | (with_reducible (refine fm_1 ?_);repeat (first | (with_reducible assumption) | (with_reducible refine FM.dr ?_))))
   (first | (go_at_call 239;(with_reducible refine (HKE.out _ ?_).mono ?_);exact V1B.bel (FM.one (by repeat (first | (with_reducible assumption) | (with_reducible refine FM.dr ?_))));rintro e w1 ⟨rfl,hb1⟩;have hst1:FM B p q T g S L w w1:=FM.step (by repeat (first | (with_reducible assumption) | (with_reducible refine FM.dr ?_))) hb1;clear hb1))
  all_goals
   go_wp2
   go_meet
   exact ⟨by first | rfl | rw [HM.out],hst1⟩
 obtain ⟨rfl,hst⟩:=hcut
 have HST:=Lib.hid hst
 clear hst HS0 HWZ HM
 go_wp2
 go_loopw [7] (fun iv wr=>∃ a d:Nat,a < S/\d<=df/\iv= .int .u64 (a:Int)/\Hid (a=(kn+d) % S)/\(∀ d',d' < d->∃ j:Nat,L.getD ((kn+d') % S) 0=(j:Int)/\al j=false)/\FM B p q T g S L w wr) (fun iv _=>df - ((intOf iv).toNat+(S - kn % S)) % S)
 case atStart=>exact ⟨kn % S,0,Nat.mod_lt _ hSp,Nat.zero_le _,rfl,(show kn % S=(kn+0) % S by rw [Nat.add_zero]),fun d' hd'=>absurd hd' (Nat.not_lt_zero _),HST.out⟩
 case round =>
  obtain ⟨a,d,ha,hd,rfl,hae,hbd,hti⟩:=hrel
  have HAE:Hid (a=(kn+d) % S):=hae
  have HBD:=Lib.hid hbd
  have HS1:=Lib.hid hti
  have hs0:=HS1.out.dr
  have hs00:=HS1.out
  clear hti hbd hae
  rcases HL.out a ha with hX | ⟨j,hj,hX⟩
  ·have hlt2:(a:Int) < (S:Int):=by omega
   go_wp2_with fail
   refine wp_region_noPanic ?_
   refine wp_region_held_drew (S:=fun W=>(W.cell? ⟨w.heap.size,0,none⟩=some (.int .i64 q.k)/\W.cell? ⟨w.heap.size,1,none⟩=some (.slice q.b.1 q.b.2.1 q.b.2.2)/\W.cell? ⟨w.heap.size,2,none⟩=some (.int .i64 q.bn)/\W.cell? ⟨w.heap.size,3,none⟩=some (.slice q.s.1 q.s.2.1 q.s.2.2)/\W.cell? ⟨w.heap.size,4,none⟩=some (.slice q.i.1 q.i.2.1 q.i.2.2)/\W.cell? ⟨w.heap.size,5,none⟩=some (.slice q.f.1 q.f.2.1 q.f.2.2)/\W.cell? ⟨w.heap.size,6,none⟩=some (.slice q.c.1 q.c.2.1 q.c.2.2)/\W.cell? ⟨w.heap.size,7,none⟩=some (.slice q.x.1 q.x.2.1 q.x.2.2)/\W.cell? ⟨T,0,none⟩=some (.int .i64 p.k)/\W.cell? ⟨T,1,none⟩=some (.slice p.b.1 p.b.2.1 p.b.2.2)/\W.cell? ⟨T,2,none⟩=some (.int .i64 p.bn)/\W.cell? ⟨T,3,none⟩=some (.slice p.s.1 p.s.2.1 p.s.2.2)/\W.cell? ⟨T,4,none⟩=some (.slice p.i.1 p.i.2.1 p.i.2.2)/\W.cell? ⟨T,5,none⟩=some (.slice p.f.1 p.f.2.1 p.f.2.2)/\W.cell? ⟨T,6,none⟩=some (.slice p.c.1 p.c.2.1 p.c.2.2)/\W.cell? ⟨T,7,none⟩=some (.slice p.x.1 p.x.2.1 p.x.2.2)/\W.cell? ⟨T,8,none⟩=some (.slice (some ⟨g,0,none⟩) S S)/\W.cell? ⟨g,a,none⟩=some (.int .i64 (-1)))/\FM B p q T g S L w W) (by kernel_rfl) (by exact fm_2 ha hX hs0) (fun hHeld=>?_)
   refine wpAnyH_take (i:=0) (v:=?av1) rfl (by kernel_rfl) (by kernel_rfl) (by kernel_rfl) (fun _ _ _ h=>h) (Or.inl ⟨by rfl,?ay1⟩) (by assumption) ?as1
   case ay1=>(intro w hSw;(try dsimp only at hSw);go_simp;try with_reducible rfl)
   change wpAnyH _ _ _ _ _ _ _ (Act.put _ (some 16) _) _
   simp only [Act.put,List.setIfInBounds_toArray,List.set_cons_zero,List.set_cons_succ]
   refine wpAnyH_take (i:=1) (v:=?av2) rfl (by kernel_rfl) (by kernel_rfl) (by kernel_rfl) (fun _ _ _ h=>h) (Or.inl ⟨by rfl,?ay2⟩) (by assumption) ?as2
   case ay2=>(intro w hSw;(try dsimp only at hSw);go_simp;try with_reducible rfl)
   change wpAnyH _ _ _ _ _ _ _ (Act.put _ (some 17) _) _
   simp only [Act.put,List.setIfInBounds_toArray,List.set_cons_zero,List.set_cons_succ]
   refine wpAnyH_take (i:=2) (v:=?av3) rfl (by kernel_rfl) (by kernel_rfl) (by kernel_rfl) (fun _ _ _ h=>h) (Or.inl ⟨by rfl,?ay3⟩) (by assumption) ?as3
   case ay3=>(intro w hSw;(try dsimp only at hSw);go_simp;try with_reducible rfl)
   change wpAnyH _ _ _ _ _ _ _ (Act.put _ (some 18) _) _
   simp only [Act.put,List.setIfInBounds_toArray,List.set_cons_zero,List.set_cons_succ]
   refine wpAnyH_take (i:=3) (v:=?av4) rfl (by kernel_rfl) (by kernel_rfl) (by kernel_rfl) (fun _ _ _ h=>h) (Or.inl ⟨by rfl,?ay4⟩) (by assumption) ?as4
   case ay4=>(intro w hSw;(try dsimp only at hSw);go_simp;try with_reducible rfl)
   change wpAnyH _ _ _ _ _ _ _ (Act.put _ (some 19) _) _
   simp only [Act.put,List.setIfInBounds_toArray,List.set_cons_zero,List.set_cons_succ]
   refine wpAnyH_take (i:=4) (v:=?av5) rfl (by kernel_rfl) (by kernel_rfl) (by kernel_rfl) (fun _ _ _ h=>h) (Or.inl ⟨by rfl,?ay5⟩) (by assumption) ?as5
   case ay5=>(intro w hSw;(try dsimp only at hSw);go_simp;try with_reducible rfl)
   change wpAnyH _ _ _ _ _ _ _ (Act.put _ (some 20) _) _
   simp only [Act.put,List.setIfInBounds_toArray,List.set_cons_zero,List.set_cons_succ]
   refine wpAnyH_take (i:=5) (v:=?av6) rfl (by kernel_rfl) (by kernel_rfl) (by kernel_rfl) (fun _ _ _ h=>h) (Or.inl ⟨by rfl,?ay6⟩) (by assumption) ?as6
   case ay6=>(intro w hSw;(try dsimp only at hSw);go_simp;try with_reducible rfl)
   change wpAnyH _ _ _ _ _ _ _ (Act.put _ (some 21) _) _
   simp only [Act.put,List.setIfInBounds_toArray,List.set_cons_zero,List.set_cons_succ]
   refine wpAnyH_take (i:=6) (v:=?av7) rfl (by kernel_rfl) (by kernel_rfl) (by kernel_rfl) (fun _ _ _ h=>h) (Or.inl ⟨by rfl,?ay7⟩) (by assumption) ?as7
   case ay7=>(intro w hSw;(try dsimp only at hSw);go_simp;try with_reducible rfl)
   change wpAnyH _ _ _ _ _ _ _ (Act.put _ (some 22) _) _
   simp only [Act.put,List.setIfInBounds_toArray,List.set_cons_zero,List.set_cons_succ]
   refine wpAnyH_take (i:=7) (v:=?av8) rfl (by kernel_rfl) (by kernel_rfl) (by kernel_rfl) (fun _ _ _ h=>h) (Or.inl ⟨by rfl,?ay8⟩) (by assumption) ?as8
   case ay8=>(intro w hSw;(try dsimp only at hSw);go_simp;try with_reducible rfl)
   change wpAnyH _ _ _ _ _ _ _ (Act.put _ (some 23) _) _
   simp only [Act.put,List.setIfInBounds_toArray,List.set_cons_zero,List.set_cons_succ]
   refine wpAnyH_take (i:=8) (v:=?av9) rfl (by kernel_rfl) (by kernel_rfl) (by kernel_rfl) (fun _ _ _ h=>h) (Or.inl ⟨by rfl,?ay9⟩) (by assumption) ?as9
   case ay9=>(intro w hSw;(try dsimp only at hSw);go_simp;try with_reducible rfl)
   change wpAnyH _ _ _ _ _ _ _ (Act.put _ (some 24) _) _
   simp only [Act.put,List.setIfInBounds_toArray,List.set_cons_zero,List.set_cons_succ]
   refine wpAnyH_take (i:=9) (v:=undef) rfl (by kernel_rfl) (by kernel_rfl) (by kernel_rfl) (fun _ _ _ h=>h) (Or.inr ⟨by (go_simp <;> (intro h;cases h)),rfl⟩) (by assumption) ?_
   change wpAnyH _ _ _ _ _ _ _ (Act.put _ (some 25) _) _
   simp only [Act.put,List.setIfInBounds_toArray,List.set_cons_zero,List.set_cons_succ]
   refine wpAnyH_take (i:=10) (v:=undef) rfl (by kernel_rfl) (by kernel_rfl) (by kernel_rfl) (fun _ _ _ h=>h) (Or.inr ⟨by (go_simp <;> (intro h;cases h)),rfl⟩) (by assumption) ?_
   change wpAnyH _ _ _ _ _ _ _ (Act.put _ (some 26) _) _
   simp only [Act.put,List.setIfInBounds_toArray,List.set_cons_zero,List.set_cons_succ]
   refine wpAnyH_take (i:=11) (v:=undef) rfl (by kernel_rfl) (by kernel_rfl) (by kernel_rfl) (fun _ _ _ h=>h) (Or.inr ⟨by (go_simp <;> (intro h;cases h)),rfl⟩) (by assumption) ?_
   change wpAnyH _ _ _ _ _ _ _ (Act.put _ (some 27) _) _
   simp only [Act.put,List.setIfInBounds_toArray,List.set_cons_zero,List.set_cons_succ]
   refine wpAnyH_take (i:=12) (v:=undef) rfl (by kernel_rfl) (by kernel_rfl) (by kernel_rfl) (fun _ _ _ h=>h) (Or.inr ⟨by (go_simp <;> (intro h;cases h)),rfl⟩) (by assumption) ?_
   change wpAnyH _ _ _ _ _ _ _ (Act.put _ (some 28) _) _
   simp only [Act.put,List.setIfInBounds_toArray,List.set_cons_zero,List.set_cons_succ]
   refine wpAnyH_take (i:=13) (v:=undef) rfl (by kernel_rfl) (by kernel_rfl) (by kernel_rfl) (fun _ _ _ h=>h) (Or.inr ⟨by (go_simp <;> (intro h;cases h)),rfl⟩) (by assumption) ?_
   change wpAnyH _ _ _ _ _ _ _ (Act.put _ (some 29) _) _
   simp only [Act.put,List.setIfInBounds_toArray,List.set_cons_zero,List.set_cons_succ]
   refine wpAnyH_take (i:=14) (v:=undef) rfl (by kernel_rfl) (by kernel_rfl) (by kernel_rfl) (fun _ _ _ h=>h) (Or.inr ⟨by (go_simp <;> (intro h;cases h)),rfl⟩) (by assumption) ?_
   change wpAnyH _ _ _ _ _ _ _ (Act.put _ (some 30) _) _
   simp only [Act.put,List.setIfInBounds_toArray,List.set_cons_zero,List.set_cons_succ]
   refine wpAnyH_take (i:=15) (v:=undef) rfl (by kernel_rfl) (by kernel_rfl) (by kernel_rfl) (fun _ _ _ h=>h) (Or.inr ⟨by (go_simp <;> (intro h;cases h)),rfl⟩) (by assumption) ?_
   change wpAnyH _ _ _ _ _ _ _ (Act.put _ (some 31) _) _
   simp only [Act.put,List.setIfInBounds_toArray,List.set_cons_zero,List.set_cons_succ]
   refine wpAnyH_take (i:=16) (v:=undef) rfl (by kernel_rfl) (by kernel_rfl) (by kernel_rfl) (fun _ _ _ h=>h) (Or.inr ⟨by (go_simp <;> (intro h;cases h)),rfl⟩) (by assumption) ?_
   change wpAnyH _ _ _ _ _ _ _ (Act.put _ (some 32) _) _
   simp only [Act.put,List.setIfInBounds_toArray,List.set_cons_zero,List.set_cons_succ]
   refine wpAnyH_take (i:=17) (v:=undef) rfl (by kernel_rfl) (by kernel_rfl) (by kernel_rfl) (fun _ _ _ h=>h) (Or.inr ⟨by (go_simp <;> (intro h;cases h)),rfl⟩) (by assumption) ?_
   change wpAnyH _ _ _ _ _ _ _ (Act.put _ (some 33) _) _
   simp only [Act.put,List.setIfInBounds_toArray,List.set_cons_zero,List.set_cons_succ]
   refine wpAnyH_take (i:=18) (v:=undef) rfl (by kernel_rfl) (by kernel_rfl) (by kernel_rfl) (fun _ _ _ h=>h) (Or.inr ⟨by (go_simp <;> (intro h;cases h)),rfl⟩) (by assumption) ?_
   change wpAnyH _ _ _ _ _ _ _ (Act.put _ (some 34) _) _
   simp only [Act.put,List.setIfInBounds_toArray,List.set_cons_zero,List.set_cons_succ]
   refine wpAnyH_take (i:=19) (v:=undef) rfl (by kernel_rfl) (by kernel_rfl) (by kernel_rfl) (fun _ _ _ h=>h) (Or.inr ⟨by (go_simp <;> (intro h;cases h)),rfl⟩) (by assumption) ?_
   change wpAnyH _ _ _ _ _ _ _ (Act.put _ (some 35) _) _
   simp only [Act.put,List.setIfInBounds_toArray,List.set_cons_zero,List.set_cons_succ]
   refine wpAnyH_take (i:=20) (v:=undef) rfl (by kernel_rfl) (by kernel_rfl) (by kernel_rfl) (fun _ _ _ h=>h) (Or.inr ⟨by (go_simp <;> (intro h;cases h)),rfl⟩) (by assumption) ?_
   change wpAnyH _ _ _ _ _ _ _ (Act.put _ (some 36) _) _
   simp only [Act.put,List.setIfInBounds_toArray,List.set_cons_zero,List.set_cons_succ]
   refine wpAnyH_take (i:=21) (v:=undef) rfl (by kernel_rfl) (by kernel_rfl) (by kernel_rfl) (fun _ _ _ h=>h) (Or.inr ⟨by (go_simp <;> (intro h;cases h)),rfl⟩) (by assumption) ?_
   change wpAnyH _ _ _ _ _ _ _ (Act.put _ (some 37) _) _
   simp only [Act.put,List.setIfInBounds_toArray,List.set_cons_zero,List.set_cons_succ]
   refine wpAnyH_take (i:=22) (v:=undef) rfl (by kernel_rfl) (by kernel_rfl) (by kernel_rfl) (fun _ _ _ h=>h) (Or.inr ⟨by (go_simp <;> (intro h;cases h)),rfl⟩) (by assumption) ?_
   change wpAnyH _ _ _ _ _ _ _ (Act.put _ (some 38) _) _
   simp only [Act.put,List.setIfInBounds_toArray,List.set_cons_zero,List.set_cons_succ]
   refine wpAnyH_take (i:=23) (v:=undef) rfl (by kernel_rfl) (by kernel_rfl) (by kernel_rfl) (fun _ _ _ h=>h) (Or.inr ⟨by (go_simp <;> (intro h;cases h)),rfl⟩) (by assumption) ?_
   change wpAnyH _ _ _ _ _ _ _ (Act.put _ (some 39) _) _
   simp only [Act.put,List.setIfInBounds_toArray,List.set_cons_zero,List.set_cons_succ]
   refine wpAnyH_take (i:=24) (v:=?av25) rfl (by kernel_rfl) (by kernel_rfl) (by kernel_rfl) (fun _ _ _ h=>h) (Or.inl ⟨by rfl,?ay25⟩) (by assumption) ?as25
   case ay25=>(intro w hSw;(try dsimp only at hSw);go_simp;try with_reducible rfl)
   change wpAnyH _ _ _ _ _ _ _ (Act.put _ (some 40) _) _
   simp only [Act.put,List.setIfInBounds_toArray,List.set_cons_zero,List.set_cons_succ]
   refine wpAnyH_done (by kernel_rfl) ?_ _
   refine NoPanic.normal ?_
   go_wp2
   go_ret
   exact ⟨a,rfl,⟨d,by omega,HAE.out,HBD.out,.inl hX⟩,HS1.out.dr.one.bel⟩
  ·have hlt2:(a:Int) < (S:Int):=by omega
   have HAJ:=Lib.hid (HAL.out j hj)
   have hj0:(0:Int)<=(j:Int):=by omega
   cases hal:al j with
   | true =>
    rw [hal] at HAJ
    have HB:=Lib.hid hal
    clear hal
    go_wp2_with fail
    go_region_held3 (fun W=>(W.cell? ⟨w.heap.size,0,none⟩=some (.int .i64 q.k)/\W.cell? ⟨w.heap.size,1,none⟩=some (.slice q.b.1 q.b.2.1 q.b.2.2)/\W.cell? ⟨w.heap.size,2,none⟩=some (.int .i64 q.bn)/\W.cell? ⟨w.heap.size,3,none⟩=some (.slice q.s.1 q.s.2.1 q.s.2.2)/\W.cell? ⟨w.heap.size,4,none⟩=some (.slice q.i.1 q.i.2.1 q.i.2.2)/\W.cell? ⟨w.heap.size,5,none⟩=some (.slice q.f.1 q.f.2.1 q.f.2.2)/\W.cell? ⟨w.heap.size,6,none⟩=some (.slice q.c.1 q.c.2.1 q.c.2.2)/\W.cell? ⟨w.heap.size,7,none⟩=some (.slice q.x.1 q.x.2.1 q.x.2.2)/\W.cell? ⟨T,0,none⟩=some (.int .i64 p.k)/\W.cell? ⟨T,1,none⟩=some (.slice p.b.1 p.b.2.1 p.b.2.2)/\W.cell? ⟨T,2,none⟩=some (.int .i64 p.bn)/\W.cell? ⟨T,3,none⟩=some (.slice p.s.1 p.s.2.1 p.s.2.2)/\W.cell? ⟨T,4,none⟩=some (.slice p.i.1 p.i.2.1 p.i.2.2)/\W.cell? ⟨T,5,none⟩=some (.slice p.f.1 p.f.2.1 p.f.2.2)/\W.cell? ⟨T,6,none⟩=some (.slice p.c.1 p.c.2.1 p.c.2.2)/\W.cell? ⟨T,7,none⟩=some (.slice p.x.1 p.x.2.1 p.x.2.2)/\W.cell? ⟨T,8,none⟩=some (.slice (some ⟨g,0,none⟩) S S)/\W.cell? ⟨g,a,none⟩=some (.int .i64 (j:Int)))/\FM B p q T g S L w W)
     (first | (with_reducible assumption) | (with_reducible (refine fm_2 ha hX ?_);repeat (first | (with_reducible assumption) | (with_reducible refine FM.dr ?_))))
     (first | (go_at_call 240;(with_reducible refine (HAJ.out _ ?_).mono ?_);exact V1B.bel (FM.one (by repeat (first | (with_reducible assumption) | (with_reducible refine FM.dr ?_))));rintro e w1 ⟨rfl,hb1⟩;have hst1:FM B p q T g S L w w1:=FM.step (by repeat (first | (with_reducible assumption) | (with_reducible refine FM.dr ?_))) hb1;clear hb1))
    all_goals
     go_wp2
     go_ret
     exact ⟨a,rfl,⟨d,by omega,HAE.out,HBD.out,.inr ⟨j,hX,HB.out⟩⟩,hst1.one.bel⟩
   | false =>
    rw [hal] at HAJ
    have HB:=Lib.hid hal
    clear hal
    have hne:d≠df:=fun e=>by
     have h8:=HFR.out
     rw [<- e,<- HAE.out,hX] at h8
     omega
    have HX:=Lib.hid hX
    have hmk:bits .and .u64 ((a:Int)+1) ((S - 1:Nat):Int)=(((a+1) % S:Nat):Int):=by
     have h8:=HM2.out (a+1) (by omega)
     rw [Int.natCast_add] at h8
     exact h8
    have HMK:=Lib.hid hmk
    clear hmk
    go_wp2_with fail
    go_region_held3 (fun W=>(W.cell? ⟨w.heap.size,0,none⟩=some (.int .i64 q.k)/\W.cell? ⟨w.heap.size,1,none⟩=some (.slice q.b.1 q.b.2.1 q.b.2.2)/\W.cell? ⟨w.heap.size,2,none⟩=some (.int .i64 q.bn)/\W.cell? ⟨w.heap.size,3,none⟩=some (.slice q.s.1 q.s.2.1 q.s.2.2)/\W.cell? ⟨w.heap.size,4,none⟩=some (.slice q.i.1 q.i.2.1 q.i.2.2)/\W.cell? ⟨w.heap.size,5,none⟩=some (.slice q.f.1 q.f.2.1 q.f.2.2)/\W.cell? ⟨w.heap.size,6,none⟩=some (.slice q.c.1 q.c.2.1 q.c.2.2)/\W.cell? ⟨w.heap.size,7,none⟩=some (.slice q.x.1 q.x.2.1 q.x.2.2)/\W.cell? ⟨T,0,none⟩=some (.int .i64 p.k)/\W.cell? ⟨T,1,none⟩=some (.slice p.b.1 p.b.2.1 p.b.2.2)/\W.cell? ⟨T,2,none⟩=some (.int .i64 p.bn)/\W.cell? ⟨T,3,none⟩=some (.slice p.s.1 p.s.2.1 p.s.2.2)/\W.cell? ⟨T,4,none⟩=some (.slice p.i.1 p.i.2.1 p.i.2.2)/\W.cell? ⟨T,5,none⟩=some (.slice p.f.1 p.f.2.1 p.f.2.2)/\W.cell? ⟨T,6,none⟩=some (.slice p.c.1 p.c.2.1 p.c.2.2)/\W.cell? ⟨T,7,none⟩=some (.slice p.x.1 p.x.2.1 p.x.2.2)/\W.cell? ⟨T,8,none⟩=some (.slice (some ⟨g,0,none⟩) S S)/\W.cell? ⟨g,a,none⟩=some (.int .i64 (j:Int)))/\FM B p q T g S L w W)
     (first | (with_reducible assumption) | (with_reducible (refine fm_2 ha hX ?_);repeat (first | (with_reducible assumption) | (with_reducible refine FM.dr ?_))))
     (first | (go_at_call 240;(with_reducible refine (HAJ.out _ ?_).mono ?_);exact V1B.bel (FM.one (by repeat (first | (with_reducible assumption) | (with_reducible refine FM.dr ?_))));rintro e w1 ⟨rfl,hb1⟩;have hst1:FM B p q T g S L w w1:=FM.step (by repeat (first | (with_reducible assumption) | (with_reducible refine FM.dr ?_))) hb1;clear hb1))
    all_goals
     have hmk1:=hst1.tab.mask
     go_wp2
     go_roundw
     case rel =>
      refine ⟨(a+1) % S,d+1,Nat.mod_lt _ (by omega),by omega,?_,?_,fun d' hd'=>?_,hst1⟩
      ·rw [HMK.out]
      ·show (a+1) % S=(kn+(d+1)) % S
       rw [HAE.out,Nat.mod_add_mod,Nat.add_assoc]
      ·by_cases e:d'=d
       ·subst e;exact ⟨j,(congrArg (fun z=>L.getD z 0) HAE.out).symm.trans HX.out,HB.out⟩
       ·exact HBD.out d' (by omega)
     case measure =>
      have e1:=dist_eq kn d S (by omega)
      have e2:=dist_eq kn (d+1) S (by omega)
      have e3:(a+1) % S=(kn+(d+1)) % S:=by rw [HAE.out,Nat.mod_add_mod,Nat.add_assoc]
      rw [<- HAE.out] at e1
      rw [<- e3] at e2
      rw [HMK.out]
      simp only [intOf,Int.toNat_natCast]
      omega
theorem store_bool {w:World}{a:Addr}{y:Value} (hc:w.cell? a=some y) (hf:w.frozen? a=false) (x:Bool) (m:Mode):(store a (.bool x) m).run Tryz.prog w= .ok () (w.setCell a (.bool x)):=by
 rw [run_store Tryz.prog w a _ m rfl,hc]
 simp [hf]
end Go.Proofs.YtbakjaliponbbaaGreatDoor
