/- What becomes of a reckoned number (done), in plain words; the walks of num.Tidy, done, Add, Sub, Mul, Div and of the reference's Done and Reckon. Words for .. Conditions: as each theorem says. -/
import Derived.Test.YtakgmnafbjdccaaGreatDoorMg00
import Derived.Test.YtakgmnafbjdccaaGreatDoorProg
import Derived.WalkKit
import Derived.WalkLawsBesides
import Derived.Maps.AppendAt
import Derived.Lib.Hide
import Derived.Outline
import Derived.OwnWalk
import Derived.Laws.OwnMore
import Derived.Deep.OwnRows
set_option maxHeartbeats 400000
namespace Go.Proofs.YtakgmnafbjdccaaGreatDoor
open Go Go.RowKit Go.Proofs Fl
def TF (b:Nat):Prop:=∃ s Z,Rep Z/\b=W s Z/\(Z=0->s=false)
theorem TF.lt {b:Nat} (h:TF b):b < 18446744073709551616:=by
 obtain ⟨s,Z,hz,rfl,_⟩:=h
 exact W_lt s hz
theorem tf_zero:TF 0:=⟨false,0,rep_zero,W_zero.symm,fun _=>rfl⟩
theorem tf_tid (s:Bool){Z:Nat} (hz:Rep Z):TF (tid s Z):=by
 unfold tid
 split
 ·exact tf_zero
 ·rename_i h;exact ⟨s,Z,hz,rfl,fun e=>absurd e h⟩
theorem tf_one:TF 4607182418800017408:=⟨false,1*2^K,rep_int K (by decide) (by unfold K;omega),by decide+kernel,fun _=>rfl⟩
def doneP (b:Nat):Nat×Int:=match Ieee.double.read b with
 | .number _ m _=>(if m=0 then 0 else b,0)
 | _=>(0,24)
theorem mg_zero {Z:Nat} (hz:Rep Z):mg (rung Z)=0↔Z=0:=by
 have h:=mg_ex hz
 constructor
 ·intro e;rw [e,Nat.zero_mul] at h;exact h.symm
 ·intro e
  rw [e] at h
  rcases Nat.mul_eq_zero.1 h with h | h
  ·rw [e];exact h
  ·exact absurd h (Nat.ne_of_gt (Nat.two_pow_pos _))
theorem doneP_num (s:Bool){Z:Nat} (hz:Rep Z):doneP (W s Z)=(tid s Z,0):=by
 unfold doneP
 rw [read_W s hz]
 show (if mg (rung Z)=0 then 0 else W s Z,0)=_
 unfold tid
 by_cases h:Z=0
 ·rw [if_pos h,if_pos ((mg_zero hz).2 h)]
 ·rw [if_neg h,if_neg (fun e=>h ((mg_zero hz).1 e))]
theorem doneP_inf (s:Bool):doneP (infw s)=(0,24):=by unfold doneP;rw [read_inf]
theorem doneP_nan {b:Nat} (h:(Ieee.double.read b).isNaN=true):doneP b=(0,24):=by
 unfold doneP
 cases hd:Ieee.double.read b <;> rw [hd] at h <;> first | rfl | cases h
theorem doneP_cases {b:Nat} (hb:b < 18446744073709551616):(∃ c,TF c/\doneP b=(c,0))\/doneP b=(0,24):=by
 rcases classify b hb with ⟨s,Z,hz,rfl⟩ | ⟨s,rfl⟩ | h
 ·exact .inl ⟨_,tf_tid s hz,doneP_num s hz⟩
 ·exact .inr (doneP_inf s)
 ·exact .inr (doneP_nan h)
theorem doneP_tf {b:Nat} (h:TF b):doneP b=(b,0):=by
 obtain ⟨s,Z,hz,rfl,h0⟩:=h
 rw [doneP_num s hz]
 unfold tid
 split
 ·rename_i e;rw [e,h0 e,W_zero]
 ·rfl
theorem inf_gt_top:FloatKind.f64.format.order (infw false) 9218868437227405311=some .gt:=by rw [<- W_top];exact fo_inf false false rep_top
theorem inf_lt_ntop:FloatKind.f64.format.order (infw true) 18442240474082181119=some .lt:=by rw [<- W_ntop];exact fo_inf true true rep_top
theorem inf_lt_top:FloatKind.f64.format.order (infw true) 9218868437227405311=some .lt:=by rw [<- W_top];exact fo_inf true false rep_top
theorem ntidy_bad {b:Nat} (h:(∃ s,b=infw s)\/(Ieee.double.read b).isNaN=true) (w:World) :
  Calls Tryz.prog 228 #[.float .f64 b] w fun e w'=>e= .returned (.tuple #[.float .f64 0,.bool false])/\w=w':=by
 rcases h with ⟨s,rfl⟩ | h
 ·have h1:=fo_infinf s
  cases s
  ·have h2:=inf_gt_top
   generalize infw false=b at *
   go_enter Tryz.func228,Tryz.ntmps228
   go_wp2
   go_ret2
   exact ⟨rfl,rfl⟩
  ·have h2:=inf_lt_ntop
   have h3:=inf_lt_top
   generalize infw true=b at *
   go_enter Tryz.func228,Tryz.ntmps228
   go_wp2
   go_ret2
   exact ⟨rfl,rfl⟩
 ·have h1:=fo_nan b h
  clear h
  go_enter Tryz.func228,Tryz.ntmps228
  go_wp2
  go_ret2
  exact ⟨rfl,rfl⟩
theorem done_any (b:Nat) (hb:b < 18446744073709551616) (w:World):Calls Tryz.prog 283 #[.float .f64 b] w fun e w'=>e= .returned (.tuple #[.float .f64 (doneP b).1,.int .i64 (doneP b).2])/\w=w':=by
 rcases classify b hb with ⟨s,Z,hz,rfl⟩ | h
 ·rw [doneP_num s hz]
  have HT:=Lib.hid (fun W=>ntidy_num s hz W)
  clear hz
  go_enter Tryz.func283,Tryz.ntmps283
  go_wp2_with fail
  refine (HT.out _).mono ?_
  rintro e w' ⟨rfl,rfl⟩
  go_wp2
  go_ret2
  exact ⟨rfl,rfl⟩
 ·have e:doneP b=(0,24):=by rcases h with ⟨s,rfl⟩ | h;exact doneP_inf s;exact doneP_nan h
  rw [e]
  have HT:=Lib.hid (fun W=>ntidy_bad h W)
  clear e h
  go_enter Tryz.func283,Tryz.ntmps283
  go_wp2_with fail
  refine (HT.out _).mono ?_
  rintro e w' ⟨rfl,rfl⟩
  go_wp2
  go_ret2
  exact ⟨rfl,rfl⟩
theorem rdone_any (b:Nat) (hb:b < 18446744073709551616) (w:World):Calls Tryz.prog 64 #[.float .f64 b] w fun e w'=>e= .returned (.tuple #[.float .f64 (doneP b).1,.int .i64 (doneP b).2])/\w=w':=by
 rcases classify b hb with ⟨s,Z,hz,rfl⟩ | h
 ·rw [doneP_num s hz]
  have HT:=Lib.hid (fun W=>rtidy_num s hz W)
  clear hz
  go_enter Tryz.func64,Tryz.ntmps64
  go_wp2_with fail
  refine (HT.out _).mono ?_
  rintro e w' ⟨rfl,rfl⟩
  go_wp2
  go_ret2
  exact ⟨rfl,rfl⟩
 ·have e:doneP b=(0,24):=by rcases h with ⟨s,rfl⟩ | h;exact doneP_inf s;exact doneP_nan h
  rw [e]
  have HT:=Lib.hid (fun W=>rtidy_bad h W)
  clear e h
  go_enter Tryz.func64,Tryz.ntmps64
  go_wp2_with fail
  refine (HT.out _).mono ?_
  rintro e w' ⟨rfl,rfl⟩
  go_wp2
  go_ret2
  exact ⟨rfl,rfl⟩
def opB (op:BinOp) (a b:Nat):Nat:=(floatBits op .f64 a b).getD 0
theorem opB_of {op:BinOp}{a b c:Nat} (h:floatBits op .f64 a b=some c):floatBits op .f64 a b=some (opB op a b)/\opB op a b < 18446744073709551616:=by
 have e:opB op a b=c:=by unfold opB;rw [h];rfl
 rw [e]
 exact ⟨h,by simpa [Lit.wf] using floatBits_wf h⟩
theorem opB_some {op:BinOp}{a b:Nat} (h:(floatBits op .f64 a b).isSome=true):floatBits op .f64 a b=some (opB op a b)/\opB op a b < 18446744073709551616:=by
 obtain ⟨c,hc⟩:=Option.isSome_iff_exists.1 h
 exact opB_of hc
theorem read_tf {b:Nat} (h:TF b):∃ s m i,Ieee.double.read b= .number s m i/\(m=0->b=0):=by
 obtain ⟨s,Z,hz,rfl,h0⟩:=h
 refine ⟨s,_,_,read_W s hz,fun e=>?_⟩
 have e0:=(mg_zero hz).1 e
 rw [e0,h0 e0,W_zero]
theorem add_tot {a b:Nat} (ha:TF a) (hb:TF b):floatBits .add .f64 a b=some (opB .add a b)/\opB .add a b < 18446744073709551616:=by
 obtain ⟨s,m,i,h1,_⟩:=read_tf ha
 obtain ⟨t,n,j,h2,_⟩:=read_tf hb
 refine opB_some ?_
 show (((Ieee.double.read a).sum (Ieee.double.read b)).map Ieee.double.write).isSome=true
 rw [h1,h2]
 rfl
theorem sub_tot {a b:Nat} (ha:TF a) (hb:TF b):floatBits .sub .f64 a b=some (opB .sub a b)/\opB .sub a b < 18446744073709551616:=by
 obtain ⟨s,m,i,h1,_⟩:=read_tf ha
 obtain ⟨t,n,j,h2,_⟩:=read_tf hb
 refine opB_some ?_
 show (((Ieee.double.read a).sum (Ieee.double.read b).opposite).map Ieee.double.write).isSome=true
 rw [h1,h2]
 rfl
theorem mul_tot {a b:Nat} (ha:TF a) (hb:TF b):floatBits .mul .f64 a b=some (opB .mul a b)/\opB .mul a b < 18446744073709551616:=by
 obtain ⟨s,m,i,h1,_⟩:=read_tf ha
 obtain ⟨t,n,j,h2,_⟩:=read_tf hb
 refine opB_some ?_
 show (((Ieee.double.read a).product (Ieee.double.read b)).map Ieee.double.write).isSome=true
 rw [h1,h2]
 rfl
theorem div_tot {a b:Nat} (ha:TF a) (hb:TF b) (h0:b≠0):floatBits .quo .f64 a b=some (opB .quo a b)/\opB .quo a b < 18446744073709551616:=by
 obtain ⟨s,m,i,h1,_⟩:=read_tf ha
 obtain ⟨t,n,j,h2,h3⟩:=read_tf hb
 refine opB_some ?_
 show ((Ieee.Datum.quotient (Ieee.double.fractionBits+2) (Ieee.double.read a) (Ieee.double.read b)).map Ieee.double.write).isSome=true
 rw [h1,h2]
 unfold Ieee.Datum.quotient
 dsimp only
 rw [if_neg (fun e=>h0 (h3 e))]
 rfl
theorem tf_eq_zero {b:Nat} (h:TF b):FloatKind.f64.format.order b 0=some (if b=0 then .eq else if (Ieee.double.order b 0)=some .lt then .lt else .gt):=by
 obtain ⟨s,Z,hz,rfl,h0⟩:=h
 have h1:=order_W s false hz rep_zero
 rw [W_zero,sg_zero] at h1
 show Ieee.double.order (W s Z) 0=_
 by_cases e:Z=0
 ·rw [e,h0 e,W_zero,if_pos rfl];decide
 ·have hne:W s Z≠0:=by
   intro e2
   have h2:=read_W s hz
   rw [e2] at h2
   have h3:Ieee.double.read 0= .number false 0 (-1074):=by decide
   rw [h3] at h2
   injection h2 with _ h4 _
   exact e ((mg_zero hz).1 h4.symm)
  rw [if_neg hne,h1]
  rcases Int.lt_trichotomy (sg s Z) 0 with h | h | h
  ·rw [cmp_lt h];rfl
  ·exact absurd (sg_eq_zero.1 h) e
  ·rw [cmp_gt h];rfl
theorem nadd_any (a b:Nat) (ha:TF a) (hb:TF b) (w:World):Calls Tryz.prog 264 #[.float .f64 a,.float .f64 b] w fun e w'=>e= .returned (.tuple #[.float .f64 (doneP (opB .add a b)).1,.int .i64 (doneP (opB .add a b)).2])/\w=w':=by
 obtain ⟨h1,h2⟩:=add_tot ha hb
 have hop:=fun w=>run_float_arith (P:=Tryz.prog) w .add 51 .f64 _ _ _ h1
 have HD:=Lib.hid (fun W=>done_any _ h2 W)
 clear h1 h2 ha hb
 generalize opB .add a b=c at *
 go_enter Tryz.func264,Tryz.ntmps264
 go_wp2_with fail
 refine (HD.out _).mono ?_
 rintro e w' ⟨rfl,rfl⟩
 go_wp2
 go_ret2
 exact ⟨rfl,rfl⟩
theorem nsub_any (a b:Nat) (ha:TF a) (hb:TF b) (w:World):Calls Tryz.prog 265 #[.float .f64 a,.float .f64 b] w fun e w'=>e= .returned (.tuple #[.float .f64 (doneP (opB .sub a b)).1,.int .i64 (doneP (opB .sub a b)).2])/\w=w':=by
 obtain ⟨h1,h2⟩:=sub_tot ha hb
 have hop:=fun w=>run_float_arith (P:=Tryz.prog) w .sub 51 .f64 _ _ _ h1
 have HD:=Lib.hid (fun W=>done_any _ h2 W)
 clear h1 h2 ha hb
 generalize opB .sub a b=c at *
 go_enter Tryz.func265,Tryz.ntmps265
 go_wp2_with fail
 refine (HD.out _).mono ?_
 rintro e w' ⟨rfl,rfl⟩
 go_wp2
 go_ret2
 exact ⟨rfl,rfl⟩
theorem nmul_any (a b:Nat) (ha:TF a) (hb:TF b) (w:World):Calls Tryz.prog 266 #[.float .f64 a,.float .f64 b] w fun e w'=>e= .returned (.tuple #[.float .f64 (doneP (opB .mul a b)).1,.int .i64 (doneP (opB .mul a b)).2])/\w=w':=by
 obtain ⟨h1,h2⟩:=mul_tot ha hb
 have hop:=fun w=>run_float_arith (P:=Tryz.prog) w .mul 51 .f64 _ _ _ h1
 have HD:=Lib.hid (fun W=>done_any _ h2 W)
 clear h1 h2 ha hb
 generalize opB .mul a b=c at *
 go_enter Tryz.func266,Tryz.ntmps266
 go_wp2_with fail
 refine (HD.out _).mono ?_
 rintro e w' ⟨rfl,rfl⟩
 go_wp2
 go_ret2
 exact ⟨rfl,rfl⟩
def divP (a b:Nat):Nat×Int:=if b=0 then (if a=0 then (4607182418800017408,0) else (0,24)) else doneP (opB .quo a b)
theorem tf_is_zero {b:Nat} (h:TF b):(FloatKind.f64.format.order b 0==some .eq)=decide (b=0):=by
 rw [tf_eq_zero h]
 by_cases e:b=0
 ·rw [if_pos e,decide_eq_true e];rfl
 ·rw [if_neg e,decide_eq_false e];split <;> rfl
theorem ndiv_any (a b:Nat) (ha:TF a) (hb:TF b) (w:World):Calls Tryz.prog 267 #[.float .f64 a,.float .f64 b] w fun e w'=>e= .returned (.tuple #[.float .f64 (divP a b).1,.int .i64 (divP a b).2])/\w=w':=by
 have z1:=tf_is_zero ha
 have z2:=tf_is_zero hb
 unfold divP
 by_cases hb0:b=0
 ·rw [if_pos hb0]
  rw [decide_eq_true hb0] at z2
  have z2':=beq_iff_eq.1 z2
  by_cases ha0:a=0
  ·rw [if_pos ha0]
   rw [decide_eq_true ha0] at z1
   have z1':=beq_iff_eq.1 z1
   clear hb0 ha0 ha hb
   go_enter Tryz.func267,Tryz.ntmps267
   go_wp2
   go_ret2
   exact ⟨rfl,rfl⟩
  ·rw [if_neg ha0]
   rw [decide_eq_false ha0] at z1
   have z1':=beq_eq_false_iff_ne.1 z1
   clear hb0 ha0 ha hb
   go_enter Tryz.func267,Tryz.ntmps267
   go_wp2
   go_ret2
   exact ⟨rfl,rfl⟩
 ·rw [if_neg hb0]
  rw [decide_eq_false hb0] at z2
  have z2':=beq_eq_false_iff_ne.1 z2
  obtain ⟨h1,h2⟩:=div_tot ha hb hb0
  have hop:=fun w=>run_float_arith (P:=Tryz.prog) w .quo 51 .f64 _ _ _ h1
  have HD:=Lib.hid (fun W=>done_any _ h2 W)
  clear h1 h2 ha hb hb0 z1
  generalize opB .quo a b=c at *
  go_enter Tryz.func267,Tryz.ntmps267
  go_wp2_with fail
  refine (HD.out _).mono ?_
  rintro e w' ⟨rfl,rfl⟩
  go_wp2
  go_ret2
  exact ⟨rfl,rfl⟩
end Go.Proofs.YtakgmnafbjdccaaGreatDoor
namespace Go.Proofs.YtakgmnafbjdccaaGreatDoor
open Go Go.RowKit Go.Proofs
def Runes (w:World) (v:Value) (l:List Int):Prop :=
 (∃ a c,v= .slice a 0 c/\l=[]) \/
 (∃ b o n c,v= .slice (some ⟨b,o,none⟩) n c/\n=l.length/\∀ i (h:i < l.length),w.cell? ⟨b,o+i,none⟩=some (.int .i32 l[i]))
theorem cell_lt {w:World}{a:Addr}{v:Value} (h:w.cell? a=some v):a.block < w.heap.size:=by
 unfold World.cell? at h
 rcases Nat.lt_or_ge a.block w.heap.size with hlt | hge
 ·exact hlt
 ·rw [Array.getElem?_eq_none hge] at h;simp at h
theorem Runes.below {w w':World}{v:Value}{l:List Int} (h:Runes w v l) (hb:Below w.heap.size w w'):Runes w' v l:=by
 rcases h with h | ⟨b,o,n,c,rfl,hn,hc⟩
 ·exact .inl h
 ·exact .inr ⟨b,o,n,c,rfl,hn,fun i hi=>by rw [hb.cell (cell_lt (hc i hi))];exact hc i hi⟩
def OwnR (w:World) (B:Nat) (v:Value) (l:List Int):Prop:=w.ownsRow B 21 1 v l.length (l.map (Value.int .i32))
theorem OwnR.nil (w:World) (B:Nat):OwnR w B (.slice none 0 0) []:=World.ownsRow_nil w B _ _
theorem OwnR.runes {w:World}{B:Nat}{v:Value}{l:List Int} (h:OwnR w B v l):Runes w v l:=by
 have h':=h
 rcases h.2 with ⟨rfl,hn⟩ | ⟨g,cap,cur,rfl,hbg,hg,hnc,hcm,hcs,htake⟩
 ·exact .inl ⟨none,0,rfl,List.eq_nil_of_length_eq_zero hn⟩
 ·refine .inr ⟨g,0,l.length,cap,rfl,rfl,fun i hi=>?_⟩
  have:=World.ownsRow.cellAt h' i (by omega)
  rw [Nat.zero_add,this]
  simp [hi]
theorem OwnR.len {w:World}{B:Nat}{v:Value}{l:List Int} (h:OwnR w B v l):∃ a c,v= .slice a l.length c:=by
 rcases h.2 with ⟨rfl,hn⟩ | ⟨g,cap,cur,rfl,_⟩
 ·exact ⟨none,0,by rw [hn]⟩
 ·exact ⟨_,_,rfl⟩
theorem OwnR.below {w w':World}{B:Nat}{v:Value}{l:List Int} (h:OwnR w B v l) (hb:Below w.heap.size w w'):OwnR w' B v l:=by
 refine ⟨h.1,?_⟩
 rcases h.2 with h2 | ⟨g,cap,cur,hv,hbg,hg,r⟩
 ·exact .inl h2
 ·refine .inr ⟨g,cap,cur,hv,hbg,?_,r⟩
  have hlt:g < w.heap.size:=by
   rcases Nat.lt_or_ge g w.heap.size with hlt | hge
   ·exact hlt
   ·rw [Array.getElem?_eq_none hge] at hg;cases hg
  rw [hb.block g hlt];exact hg
theorem OwnR.lower {w:World}{B B':Nat}{v:Value}{l:List Int} (h:OwnR w B v l) (hB:B'<=B):OwnR w B' v l:=by
 refine ⟨h.1,?_⟩
 rcases h.2 with h2 | ⟨g,cap,cur,hv,hbg,r⟩
 ·exact .inl h2
 ·exact .inr ⟨g,cap,cur,hv,by omega,r⟩
theorem OwnR.alloc {w:World}{B:Nat}{v:Value}{l:List Int} (h:OwnR w B v l) (o:Obj):OwnR (w.alloc o) B v l:=World.ownsRow.alloc h o
def Apart (v d:Value):Prop:=v.ownBlock=none\/d.ownBlock=none\/v.ownBlock≠d.ownBlock
theorem Apart.symm {v d:Value} (h:Apart v d):Apart d v:=by
 rcases h with h | h | h
 ·exact .inr (.inl h)
 ·exact .inl h
 ·exact .inr (.inr fun e=>h e.symm)
theorem info_i32:(Tryz.prog.info? 21).map (fun i=>(i.zero,i.size,i.bytes))=some (some (.int .i32 0),1,4):=by kernel_rfl
theorem OwnR.form {w:World}{B:Nat}{v:Value}{l:List Int} (h:OwnR w B v l) (hl:l≠[]) :
  ∃ g c,v= .slice (some ⟨g,0,none⟩) l.length c/\∀ w' B',OwnR w' B' v l->∀ i (hi:i < l.length),w'.cell? ⟨g,i,none⟩=some (.int .i32 l[i]):=by
 rcases h.2 with ⟨rfl,hn⟩ | ⟨g,cap,cur,rfl,hbg,hg,hnc,hcm,hcs,htake⟩
 ·exact absurd (List.eq_nil_of_length_eq_zero hn) hl
 ·refine ⟨g,cap,rfl,fun w' B' h' i hi=>?_⟩
  have:=World.ownsRow.cellAt h' i (by omega)
  rw [this]
  simp [hi]
def Reads1 (w:World) (v:Value) (xs:List Value):Prop :=
 (∃ a c,v= .slice a 0 c/\xs=[]) \/
 (∃ b o n c,v= .slice (some ⟨b,o,none⟩) n c/\n=xs.length/\∀ i (h:i < xs.length),w.cell? ⟨b,o+i,none⟩=some xs[i])
theorem Reads1.below {w w':World}{v:Value}{xs:List Value} (h:Reads1 w v xs) (hb:Below w.heap.size w w'):Reads1 w' v xs:=by
 rcases h with h | ⟨b,o,n,c,rfl,hn,hc⟩
 ·exact .inl h
 ·exact .inr ⟨b,o,n,c,rfl,hn,fun i hi=>by rw [hb.cell (cell_lt (hc i hi))];exact hc i hi⟩
theorem Reads1.len {w:World}{v:Value}{xs:List Value} (h:Reads1 w v xs):∃ a c,v= .slice a xs.length c:=by
 rcases h with ⟨a,c,rfl,rfl⟩ | ⟨b,o,n,c,rfl,hn,hc⟩
 ·exact ⟨a,c,rfl⟩
 ·exact ⟨_,c,by rw [hn]⟩
theorem Reads1.cells {w:World}{v:Value}{xs:List Value} (h:Reads1 w v xs) (hne:xs≠[]) :
  ∃ b o c,v= .slice (some ⟨b,o,none⟩) xs.length c/\∀ i (h:i < xs.length),w.cell? ⟨b,o+i,none⟩=some xs[i]:=by
 rcases h with ⟨a,c,rfl,rfl⟩ | ⟨b,o,n,c,rfl,hn,hc⟩
 ·exact absurd rfl hne
 ·exact ⟨b,o,c,by rw [hn],hc⟩
def Own1 (w:World) (B:Nat) (e:TypeId) (v:Value) (xs:List Value):Prop:=w.ownsRow B e 1 v xs.length xs
theorem Own1.nil (w:World) (B:Nat) (e:TypeId):Own1 w B e (.slice none 0 0) []:=World.ownsRow_nil w B _ _
theorem Own1.reads {w:World}{B:Nat}{e:TypeId}{v:Value}{xs:List Value} (h:Own1 w B e v xs):Reads1 w v xs:=by
 have h':=h
 rcases h.2 with ⟨rfl,hn⟩ | ⟨g,cap,cur,rfl,hbg,hg,hnc,hcm,hcs,htake⟩
 ·exact .inl ⟨none,0,rfl,List.eq_nil_of_length_eq_zero hn⟩
 ·refine .inr ⟨g,0,xs.length,cap,rfl,rfl,fun i hi=>?_⟩
  have:=World.ownsRow.cellAt h' i (by omega)
  rw [Nat.zero_add,this]
  simp [hi]
theorem Own1.below {w w':World}{B:Nat}{e:TypeId}{v:Value}{xs:List Value} (h:Own1 w B e v xs) (hb:Below w.heap.size w w'):Own1 w' B e v xs:=by
 refine ⟨h.1,?_⟩
 rcases h.2 with h2 | ⟨g,cap,cur,hv,hbg,hg,r⟩
 ·exact .inl h2
 ·refine .inr ⟨g,cap,cur,hv,hbg,?_,r⟩
  have hlt:g < w.heap.size:=by
   rcases Nat.lt_or_ge g w.heap.size with hlt | hge
   ·exact hlt
   ·rw [Array.getElem?_eq_none hge] at hg;cases hg
  rw [hb.block g hlt];exact hg
theorem Own1.alloc {w:World}{B:Nat}{e:TypeId}{v:Value}{xs:List Value} (h:Own1 w B e v xs) (o:Obj):Own1 (w.alloc o) B e v xs:=World.ownsRow.alloc h o
theorem OwnR.own {w:World}{B:Nat}{v:Value}{l:List Int} (h:OwnR w B v l):Own1 w B 21 v (l.map (Value.int .i32)):=by
 unfold Own1;rw [List.length_map];exact h
theorem wpList_push1 {ops:Array Oper}{rest:List Oper}{o:Oper}{a:Act}{Q:Exit->Act->World->Prop}{w:World} (hgd:o.guard=none) (s x:Operand) (t e:TypeId)
  (ho:o.op= .call { callee := .builtin .append,args:=#[s,x],argTypes:=#[t,t]}) (ht:Tryz.prog.underlying t=some (.slice e)) (z:Value) (bytes:Nat)
  (hinfo:(Tryz.prog.info? e).map (fun i=>(i.zero,i.size,i.bytes))=some (some z,1,bytes)) (hz:z.cells.size=1)
  (B:Nat) (v:Value) (xs:List Value) (hs:a.eval s=v) (hown:Own1 w B e v xs) (c:Value) (hc1:c.oneCell'=true)
  (hx:a.eval x= .slice (some ⟨w.heap.size,0,none⟩) 1 1) (hl:(xs.length+1)*bytes<=140737488355328) (hl2:xs.length+1<=140737488355328) (hB:B<=w.heap.size)
  (h:∀ v' w',Own1 w' B e v' (xs++[c])->(∀ w0,Below B w0 w->Below B w0 w')->(∀ e2 d m,w.ownsRow B e2 1 d m.length m->Apart v d->w'.ownsRow B e2 1 d m.length m/\Apart v' d)->w.heap.size<=w'.heap.size ->
   wpList Tryz.prog ops Q rest (a.put o.dst v') w'):wpList Tryz.prog ops Q (o::rest) a (w.alloc (.cells #[c] e)):=by
 obtain ⟨i0,hi0,hz0,hz1,hz2⟩:=info_parts hinfo
 refine wpList_append_own_at _ hgd s x t ho B e i0 z 1 bytes ht hi0 hz0 hz1 hz2 hz (by omega) v xs.length _ hs
  (World.ownsRow.alloc hown _) ⟨w.heap.size,0,none⟩ 1 1 [c] hx rfl (cell_one_new w _ _) (by simpa using hc1) (by unfold maxLen;omega) hl (by simp;omega) ?_
 intro v' w' hown' hg _ hat
 have hsz:w.heap.size+1<=w'.heap.size:=by have:=hg.size;simpa using this
 refine h v' w' ?_ ?_ ?_ (by omega)
 ·unfold Own1
  rw [List.length_append]
  exact hown'
 ·intro w0 hb
  exact ((hb.alloc hB _).grown hg (by simp;omega) fun k hk=>(World.ownsRow.lt hown k hk).1)
 ·intro e2 d m hd hap
  have hd':(w.alloc (.cells #[c] e)).ownsRow B e2 1 d m.length m:=World.ownsRow.alloc hd _
  refine ⟨World.ownsRow.kept hd' hg ?_,?_⟩
  ·rcases hap with h1 | h1 | h1
   ·cases hdb:d.ownBlock with
    | none=>exact .inl rfl
    | some k=>right;rw [h1];simp
   ·exact .inl h1
   ·exact .inr fun e=>h1 e.symm
  ·rcases hat with e | e
   ·unfold Apart;rw [e];exact hap
   ·refine .inr (.inr ?_)
    rw [e]
    intro he
    have:=(World.ownsRow.lt hd _ he.symm).2
    simp at this
    omega
def fillL (f:Nat->Value) (z:Value) (n k:Nat):List Value:=(List.range n).map fun i=>if i < k then f i else z
theorem fillL_len (f:Nat->Value) (z:Value) (n k:Nat):(fillL f z n k).length=n:=by simp [fillL]
theorem fillL_get (f:Nat->Value) (z:Value) (n k i:Nat) (h:i < n):(fillL f z n k)[i]?=some (if i < k then f i else z):=by simp [fillL,h]
theorem fillL_none (f:Nat->Value) (z:Value) (n k i:Nat) (h:¬ i < n):(fillL f z n k)[i]?=none:=by
 rw [List.getElem?_eq_none_iff,fillL_len];omega
theorem fillL_zero (f:Nat->Value) (z:Value) (n:Nat):List.replicate n z=fillL f z n 0:=by
 apply List.ext_getElem?
 intro i
 by_cases h:i < n
 ·rw [fillL_get _ _ _ _ _ h,List.getElem?_replicate,if_pos h];simp
 ·rw [fillL_none _ _ _ _ _ h,List.getElem?_replicate,if_neg h]
theorem fillL_set (f:Nat->Value) (z:Value) (n k:Nat) (h:k < n):(fillL f z n k).set k (f k)=fillL f z n (k+1):=by
 apply List.ext_getElem?
 intro i
 rw [List.getElem?_set]
 by_cases hi:i < n
 ·rw [fillL_get _ _ _ _ _ hi,fillL_get _ _ _ _ _ hi,fillL_len]
  by_cases hk:k=i
  ·subst hk;rw [if_pos rfl,if_pos h,if_pos (by omega)]
  ·rw [if_neg hk]
   by_cases h2:i < k
   ·rw [if_pos h2,if_pos (by omega)]
   ·rw [if_neg h2,if_neg (by omega)]
 ·rw [fillL_none _ _ _ _ _ hi,fillL_none _ _ _ _ _ hi,if_neg (by omega)]
theorem fillL_full (f:Nat->Value) (z:Value) (n:Nat):fillL f z n n=(List.range n).map f:=by
 unfold fillL
 apply List.map_congr_left
 intro i hi
 rw [if_pos (List.mem_range.1 hi)]
def Fill (w:World) (B g:Nat) (e:TypeId) (f:Nat->Value) (z:Value) (n k:Nat):Prop:=w.ownsRow B e 1 (.slice (some ⟨g,0,none⟩) n n) n (fillL f z n k)
theorem Fill.made (w:World) (B:Nat) (hB:B<=w.heap.size) (e:TypeId) (f:Nat->Value) (z:Value) (n:Nat) (hn:n<=maxLen):Fill (w.alloc (.cells (madeCells #[z] n) e)) B w.heap.size e f z n 0:=by
 have h:=World.ownsRow_lit (base:=B) (e:=e) (size:=1) w (madeCells #[z] n) n hB hn (by rw [size_madeCells];omega)
 rw [toList_madeCells_one,fillL_zero f] at h
 exact h
theorem Fill.cell {w:World}{B g:Nat}{e:TypeId}{f:Nat->Value}{z:Value}{n k:Nat} (h:Fill w B g e f z n k) (hk:k < n):w.cell? ⟨g,k,none⟩=some z:=by
 have:=World.ownsRow.cellAt h k (by omega)
 rw [this,fillL_get _ _ _ _ _ hk,if_neg (by omega)]
theorem Fill.done {w:World}{B g:Nat}{e:TypeId}{f:Nat->Value}{z:Value}{n k:Nat} (h:Fill w B g e f z n k) (i:Nat) (hi:i < k) (hk:k<=n):w.cell? ⟨g,i,none⟩=some (f i):=by
 have:=World.ownsRow.cellAt h i (by omega)
 rw [this,fillL_get _ _ _ _ _ (by omega),if_pos hi]
theorem Fill.frozen {w:World}{B g:Nat}{e:TypeId}{f:Nat->Value}{z:Value}{n k:Nat} (h:Fill w B g e f z n k) (i:Nat):w.frozen? ⟨g,i,none⟩=false:=World.ownsRow.frozenAt h i
theorem Fill.put {w:World}{B g:Nat}{e:TypeId}{f:Nat->Value}{z:Value}{n k:Nat} (h:Fill w B g e f z n k) (hk:k < n):Fill (w.setCell ⟨g,k,none⟩ (f k)) B g e f z n (k+1):=by
 have:=(World.ownsRow.stored h k (f k)).1
 rw [fillL_set _ _ _ _ hk] at this
 exact this
theorem Fill.low {w:World}{B g:Nat}{e:TypeId}{f:Nat->Value}{z:Value}{n k:Nat} (h:Fill w B g e f z n k):B<=g/\g < w.heap.size:=World.ownsRow.lt h g rfl
theorem Fill.bel {w w0:World}{B g:Nat}{e:TypeId}{f:Nat->Value}{z:Value}{n k:Nat} (h:Fill w B g e f z n k) (hb:Below B w0 w) (i:Nat) (u:Value):Below B w0 (w.setCell ⟨g,i,none⟩ u):=hb.setCell h.low.1 _
theorem Fill.below {w w':World}{B g:Nat}{e:TypeId}{f:Nat->Value}{z:Value}{n k:Nat} (h:Fill w B g e f z n k) (hb:Below w.heap.size w w'):Fill w' B g e f z n k:=by
 have h2:Own1 w B e (.slice (some ⟨g,0,none⟩) n n) (fillL f z n k):=by unfold Own1;rw [fillL_len];exact h
 have:=h2.below hb
 unfold Own1 at this
 rw [fillL_len] at this
 exact this
theorem Fill.own {w:World}{B g:Nat}{e:TypeId}{f:Nat->Value}{z:Value}{n:Nat} (h:Fill w B g e f z n n):Own1 w B e (.slice (some ⟨g,0,none⟩) n n) ((List.range n).map f):=by
 unfold Own1
 rw [<- fillL_full f z n,fillL_len]
 exact h
theorem map_range_getD {α:Type} (l:List α) (d:α) (f:α->Value):(List.range l.length).map (fun i=>f (l.getD i d))=l.map f:=by
 apply List.ext_getElem?
 intro i
 by_cases h:i < l.length
 ·simp [h,List.getD]
 ·simp [h]
theorem Reads1.at {w:World}{v:Value}{xs:List Value} (h:Reads1 w v xs):(∃ a c,v= .slice a 0 c/\xs=[])\/∃ b o c,v= .slice (some ⟨b,o,none⟩) xs.length c/\∀ i (h:i < xs.length),w.cell? ⟨b,o+i,none⟩=some xs[i]:=by
 rcases h with h | ⟨b,o,n,c,rfl,hn,hc⟩
 ·exact .inl h
 ·exact .inr ⟨b,o,c,by rw [hn],hc⟩
theorem bel1 (w:World) (a:Obj):Below w.heap.size w (w.alloc a):=(Below.refl _ w).alloc (Nat.le_refl _) a
theorem bel2 (w:World) (a b:Obj):Below w.heap.size w ((w.alloc a).alloc b):=(bel1 w a).alloc (by simp) b
theorem bel3 (w:World) (a b c:Obj):Below w.heap.size w (((w.alloc a).alloc b).alloc c):=(bel2 w a b).alloc (by simp;omega) c
theorem bel4 (w:World) (a b c d:Obj):Below w.heap.size w ((((w.alloc a).alloc b).alloc c).alloc d):=(bel3 w a b c).alloc (by simp;omega) d
theorem cell_box1 {w:World}{p:Addr}{v:Value} (h:w.cell? p=some v) (a:Obj):(w.alloc a).cell? p=some v:=by rw [(bel1 w a).cell (cell_lt h)];exact h
theorem cell_box2 {w:World}{p:Addr}{v:Value} (h:w.cell? p=some v) (a b:Obj):((w.alloc a).alloc b).cell? p=some v:=cell_box1 (cell_box1 h a) b
theorem cell_box3 {w:World}{p:Addr}{v:Value} (h:w.cell? p=some v) (a b c:Obj):(((w.alloc a).alloc b).alloc c).cell? p=some v:=cell_box1 (cell_box2 h a b) c
theorem cell_box4 {w:World}{p:Addr}{v:Value} (h:w.cell? p=some v) (a b c d:Obj):((((w.alloc a).alloc b).alloc c).alloc d).cell? p=some v:=cell_box1 (cell_box3 h a b c) d
abbrev vnil:Value := .slice none 0 0
abbrev vecV (k:Int) (bw:Value) (bn:Int) (s i f c x:Value):Value := .agg #[.int .i64 k,bw,.int .i64 bn,s,i,f,c,x]
structure BitsOf (ws:List Nat) (l:List Bool):Prop where
 len:ws.length=(l.length+63) / 64
 word:∀ x∈ws,x < 18446744073709551616
 bit:∀ i (h:i < ws.length) j,j < 64->ws[i].testBit j=l.getD (64*i+j) false
inductive VecS where
 | none | bits (l:List Bool) | small (l:List Int) | ints (l:List Int) | floats (l:List Nat) | chars (l:List Int) | boxes (s:Value)
def VecS.kind:VecS->Nat
 | .none=>0 | .bits _=>1 | .small _=>2 | .ints _=>3 | .floats _=>4 | .chars _=>5 | .boxes _=>6
def VR (w:World) (v:Value):VecS->Prop
 | .none=>v=vecV 0 vnil 0 vnil vnil vnil vnil vnil
 | .bits l=>∃ b ws,v=vecV 1 b l.length vnil vnil vnil vnil vnil/\Reads1 w b (ws.map fun x:Nat => .int .u64 x)/\BitsOf ws l
 | .small l=>∃ s,v=vecV 2 vnil 0 s vnil vnil vnil vnil/\Reads1 w s (l.map (.int .i8))/\∀ n∈l,-128<=n/\n<=127
 | .ints l=>∃ s,v=vecV 3 vnil 0 vnil s vnil vnil vnil/\Reads1 w s (l.map (.int .i64))/\∀ n∈l,-9007199254740992<=n/\n<=9007199254740992
 | .floats l=>∃ s,v=vecV 4 vnil 0 vnil vnil s vnil vnil/\Reads1 w s (l.map (.float .f64))
 | .chars l=>∃ s,v=vecV 5 vnil 0 vnil vnil vnil s vnil/\Reads1 w s (l.map (.int .i32))
 | .boxes s=>v=vecV 6 vnil 0 vnil vnil vnil vnil s
theorem VR.below {w w':World}{v:Value}{x:VecS} (h:VR w v x) (hb:Below w.heap.size w w'):VR w' v x:=by
 cases x with
 | none=>exact h
 | bits l=>obtain ⟨b,ws,e,h1,h2⟩:=h;exact ⟨b,ws,e,h1.below hb,h2⟩
 | small l=>obtain ⟨s,e,h1,h2⟩:=h;exact ⟨s,e,h1.below hb,h2⟩
 | ints l=>obtain ⟨s,e,h1,h2⟩:=h;exact ⟨s,e,h1.below hb,h2⟩
 | floats l=>obtain ⟨s,e,h1⟩:=h;exact ⟨s,e,h1.below hb⟩
 | chars l=>obtain ⟨s,e,h1⟩:=h;exact ⟨s,e,h1.below hb⟩
 | boxes s=>exact h
end Go.Proofs.YtakgmnafbjdccaaGreatDoor
