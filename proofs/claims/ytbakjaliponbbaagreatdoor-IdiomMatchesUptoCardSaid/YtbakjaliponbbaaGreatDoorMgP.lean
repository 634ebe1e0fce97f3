/- The statement IdiomMatches, where what it reads is of bulk at most 1048576: the call returns true, and each argument reads afterwards as it read before. Conditions: that bulk; the row's own. -/
import Derived.Test.YtbakjaliponbbaaGreatDoorCards
import Derived.Test.YtbakjaliponbbaaGreatDoorTie
import Derived.Test.YtbakjaliponbbaaGreatDoorMg38
import Derived.ProofKit
import Derived.OpenShut
import Derived.JoinedCond
import Derived.Deep.DeepHandedRow
import Derived.Lib.LaidTab
import Derived.Lib.TrailingZeros
import Derived.ChangeOld
import Derived.Below
set_option maxRecDepth 100000
set_option maxHeartbeats 0
namespace Go.Proofs.YtbakjaliponbbaaGreatDoor.idiomMatchesP
open Go.ChangeShapes Go.WideShapes Go.ChangeAt Go.RowKit Go.Deep
open Go.Proofs.YtbakjaliponbbaaGreatDoor Fl
theorem own:ownKnob Tryz.prog.godebug=none:=by kernel_rfl
theorem laidOut:laidOutB Tryz.prog=true:=by kernel_rfl
def tabZ:List Int:=Lib.deBruijn64tab.map Int.ofNat
theorem node_arg {H:Type}{enc:TypeId×Value->H}{W:World}{sp:Nat->Bool}{held:Bool}{base b0:Nat}{r:Reach}{v:Value}{d:DataW H}{p:List MemPlace} (hv:Value.okWide Tryz.prog W r b0 29 v) (h:DataW.Trod enc Tryz.prog W base sp held 29 v d p) :
  ∃ a0 a1 a2 a3 a4 a5 t,v= .agg #[a0,a1,a2,a3,a4,a5]/\RN W t [a0,a1,a2,a3,a4,a5]/\sizeR t<=Rows.uptoBulk d/\(Rows.uptoBulk d<=1048576->FitG t):=by
 obtain ⟨cs,rfl,hsz⟩:=okWide_struct Tryz.underlying29 hv
 obtain ⟨l⟩:=cs
 match l,hsz.trans c_node with
 | [a0,a1,a2,a3,a4,a5],_ =>
  obtain ⟨fuel,hf⟩:=h
  obtain ⟨t,h1,h2,h3⟩:=node_open fuel fuel _ _ (Nat.le_refl _) hf
  exact ⟨a0,a1,a2,a3,a4,a5,t,rfl,h1,h2,h3⟩
theorem contract (H:Type) (enc:TypeId×Value->H) (W:World) (base:Nat) (args:Array Value) (ds gs:List (DataW H)) (before:List MemPlace)
  (hval:∀ (j:Nat) t v,Tryz.f5.params[j]?=some t->args[j]?=some v->Value.okWide Tryz.prog W .any base t v)
  (hW:DataW.Whole enc Tryz.prog Tryz.f5.params.toList Rows.idiomMatchesSpec.vars false W args.toList ds gs before) (hk:Rows.uptoSmall H (ds++gs)=true) :
  Calls Tryz.prog 5 args W fun e W'=>∃ v,e= .returned v/\Rows.idiomMatchesSpec.post enc Tryz.prog Tryz.f5 false true false false W args v W':=by
 have hW':=hW
 obtain ⟨p,q,hA0,hV,rfl,hfz,hnd⟩:=hW
 have hA:DataW.TrodAll enc Tryz.prog W 0 (fun _=>true) true Tryz.f5.params.toList args.toList ds p:=hA0
 rw [Tryz.params5] at hA hval
 obtain ⟨v0,vs0,d0,ds0,p0,q0,hargs,rfl,rfl,h0,r0⟩:=trodAll_cons hA
 obtain ⟨v1,vs1,d1,ds1,p1,q1,rfl,rfl,rfl,h1,r1⟩:=trodAll_cons r0
 obtain ⟨rfl,rfl,rfl⟩:=trodAll_nil r1
 obtain rfl:args=#[v0,v1]:=by cases args;simp_all
 obtain ⟨rfl,rfl⟩:=trodVars_none hV
 have hb:=of_decide_eq_true hk
 simp only [List.append_nil,Rows.uptoBulkAll] at hb
 obtain ⟨a00,a01,a02,a03,a04,a05,t0,rfl,hr0,hs0,hf0⟩:=node_arg (hval 0 29 v0 rfl rfl) h0
 have k0:=h0
 have lt0:∀ x∈p0,x.block < W.heap.size:=by obtain ⟨m,hm⟩:=k0;exact DataW.trod_lt m _ _ _ hm
 obtain ⟨x1,rfl,rfl,rfl,wf1⟩:=open_int Tryz.underlying21 (hval 1 21 v1 rfl rfl) h1
 clear hA0
 refine (matches_walk t0 a00 a01 a02 a03 a04 a05 x1 W (by omega) (hf0 (by omega)) hr0).mono fun e W' ⟨he,bel⟩=>?_
 subst he
 exact ⟨_,rfl,_,_,_,[],_,[],hW',trodAll_mk1 (shut_bool Tryz.underlying4 _),(trodAll_cons_mk (Below.trod laidOut (by kernel_rfl) (of_decide_eq_true (by kernel_rfl)) k0 bel lt0) (trodAll_cons_mk (shut_int Tryz.underlying21 wf1) trodAll_mk0)),rfl,bel.frame _,fun h=>by cases h⟩
noncomputable def laidWorld (os:Os):World :=
 { World.holding Tryz.prog os ⟨#[],#[],[]⟩ with heap:=(World.holding Tryz.prog os ⟨#[],#[],[]⟩).heap.modify 0 fun
   | .cells _ t frozen => .cells (tabZ.map (Value.int .u8)).toArray t frozen
   | o=>o}
theorem laid_met (os:Os):laidMet Tryz.prog Rows.idiomMatchesUptoRow.laid ((laidWorld os).forCall (fun _ _=>0) ⟨#[],#[.agg #[.int .i64 0,.slice none 0 0,.slice none 0 0,.string ⟨#[]⟩,.int .i32 0,.slice none 0 0],.int .i32 0],[]⟩).memory :=
 laidMet_of_run' 8 (by kernel_rfl) (by kernel_rfl)
theorem reads (os:Os){H:Type} (enc:TypeId×Value->H):∃ places,DataW.whole enc Tryz.prog ((laidWorld os).forCall (fun _ _=>0) ⟨#[],#[.agg #[.int .i64 0,.slice none 0 0,.slice none 0 0,.string ⟨#[]⟩,.int .i32 0,.slice none 0 0],.int .i32 0],[]⟩).memory Tryz.f5.params.toList Rows.idiomMatchesSpec.vars false #[Value.agg #[.int .i64 0,.slice none 0 0,.slice none 0 0,.string ⟨#[]⟩,.int .i32 0,.slice none 0 0],Value.int .i32 0].toList 8=some ([.agg [.lit (.int .i64 0),.nil,.nil,.lit (.string []),.lit (.int .i32 0),.nil],.lit (.int .i32 0)],[],places) :=
 ⟨[],by kernel_rfl⟩
theorem lifted (os:Os) (started:os.Started) (H:Type) (enc:TypeId×Value->H) (F:Stop.Interp) :
  ReturnsInHanded {} Tryz.checked os 5 .any ((Rows.OpenSpec.upto Rows.idiomMatchesSpec).preRow enc Tryz.prog Tryz.f5 Rows.idiomMatchesUptoRow.domain false Rows.idiomMatchesUptoRow.laid) (((Rows.OpenSpec.upto Rows.idiomMatchesSpec).at F).post enc Tryz.prog Tryz.f5 false true false false):=by
 obtain ⟨places,hx⟩:=reads os enc
 refine returnsInHanded_of_row (C:=Tryz.checked) (s:=Rows.OpenSpec.upto Rows.idiomMatchesSpec) own started (by kernel_rfl) Tryz.func5
  (witness_row_at (enc:=enc) (C:=Tryz.checked) false (laidWorld os) #[.agg #[.int .i64 0,.slice none 0 0,.slice none 0 0,.string ⟨#[]⟩,.int .i32 0,.slice none 0 0],.int .i32 0] rfl (by kernel_rfl) (by kernel_rfl) (by kernel_rfl)
   (OpenSpec.preRow_of_cond 8 hx (by kernel_rfl) (fun k hk=>by cases hk;kernel_rfl) (by kernel_rfl) (laid_met os))) ?_
 intro W base args ds gs before hval hW _ hcond _ _ _ _
 exact contract H enc W base args ds gs before hval hW (hcond _ rfl)
theorem closed:joinedFacts Tryz.checked.prog 5 Tryz.f5 (Rows.OpenSpec.upto Rows.idiomMatchesSpec).bare Rows.idiomMatchesUptoRow=true:=by
 unfold joinedFacts
 simp only [Bool.and_eq_true]
 repeat' apply And.intro
 all_goals (as_aux_lemma=>kernel_rfl)
theorem said:Rows.IdiomMatchesUptoSaid :=
 OpenClaim.holds_of_cond 5 Tryz.f5 rfl rfl rfl rfl rfl rfl rfl ⟨rfl,rfl,rfl,rfl,rfl⟩ rfl rfl rfl rfl rfl (by kernel_rfl) Tryz.func5 closed
  (of_decide_eq_true (by kernel_rfl)) (by unfold Func.isWrapper;first | (rw [if_pos (by decide+kernel)];kernel_rfl) | (rw [if_neg (by decide+kernel)];exact ⟨rfl,rfl⟩))
  (fun os started H enc _ F=>by rw [OpenClaim.pre_eq_preRow];exact lifted os started H enc F)
theorem plain (f : FuncId) (fn : Func) (hf : Tryz.pinned.checked.prog.funcNamed "rebus/rebuslaw34.IdiomMatches" = some f) (hfn : Tryz.pinned.checked.prog.funcs[f]? = some fn) :
  false=Tryz.pinned.checked.prog.looks []/\∀ (j:Nat) t,fn.params[j]?=some t->Tryz.pinned.checked.prog.wantsStandIn t=false:=by
 obtain rfl : f = 5 := Option.some.inj ((show Tryz.prog.funcNamed "rebus/rebuslaw34.IdiomMatches" = some 5 by kernel_rfl).symm.trans hf) |>.symm
 obtain rfl:fn=Tryz.f5:=(Option.some.inj (Tryz.func5.symm.trans hfn)).symm
 refine ⟨by kernel_rfl,fun j t ht=>?_⟩
 rw [Tryz.params5] at ht
 have hm:t∈[29,21]:=by simpa using Array.mem_of_getElem? ht
 have hall:([29,21].all fun u => !Tryz.prog.wantsStandIn u)=true:=by kernel_rfl
 exact (show Tryz.prog.wantsStandIn t=false by simpa using List.all_eq_true.1 hall t hm)
end Go.Proofs.YtbakjaliponbbaaGreatDoor.idiomMatchesP
namespace Go.Proofs.YtbakjaliponbbaaGreatDoor
theorem idiomMatches_card:Rows.IdiomMatchesUptoCardSaid :=
 Claim7.holds_tied_plain_at .later [] _ _ _ _ idiomMatchesP.said (fun _ h=>by cases h) (by kernel_rfl) (fun _ h=>by cases h) idiomMatchesUpto_row_tie rfl ⟨rfl,rfl⟩ (by kernel_rfl) rfl idiomMatchesP.plain (by kernel_rfl)
end Go.Proofs.YtbakjaliponbbaaGreatDoor
