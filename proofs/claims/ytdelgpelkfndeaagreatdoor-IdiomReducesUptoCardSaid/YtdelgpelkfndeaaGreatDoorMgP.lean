/- The statement IdiomReduces, where what it reads is of bulk at most 1048576: the call returns true, and each argument reads afterwards as it read before. Conditions: that bulk; the row's own. -/
import Derived.Test.YtdelgpelkfndeaaGreatDoorCards
import Derived.Test.YtdelgpelkfndeaaGreatDoorTie
import Derived.Test.YtdelgpelkfndeaaGreatDoorMg28
import Derived.ProofKit
import Derived.OpenShut
import Derived.JoinedCond
import Derived.Deep.DeepHandedRow
import Derived.Lib.LaidTab
import Derived.Lib.TrailingZeros
import Derived.ChangeOld
import Derived.Below
set_option maxRecDepth 100000
set_option maxHeartbeats 0
namespace Go.Proofs.YtdelgpelkfndeaaGreatDoor.idiomReducesP
open Go.ChangeShapes Go.WideShapes Go.ChangeAt Go.RowKit Go.Deep
open Go.Proofs.YtdelgpelkfndeaaGreatDoor Fl
theorem own:ownKnob Tryz.prog.godebug=none:=by kernel_rfl
theorem laidOut:laidOutB Tryz.prog=true:=by kernel_rfl
theorem gTab : Tryz.prog.globalNamed "math/bits.deBruijn64tab" = some 0 := by kernel_rfl
theorem gTabType:(Tryz.prog.globals[0]?).map (·.type)=some 212:=by kernel_rfl
theorem cellsA:Tryz.prog.cellsOf 212=64:=by kernel_rfl
theorem cellsE:Tryz.prog.cellsOf 5=1:=by kernel_rfl
def tabZ:List Int:=Lib.deBruijn64tab.map Int.ofNat
theorem table {W:World} (h:laidMetH Tryz.prog Rows.idiomReducesUptoRow.laid W):TzTab W:=by
 have ht : Lib.TabIs Tryz.prog W "math/bits.deBruijn64tab" .u8 tabZ :=
  Lib.tabIs_of_head (rest:=[]) gTab gTabType Tryz.underlying212 Tryz.underlying5 cellsE cellsA h
 intro i hi
 have hl:tabZ.length=64:=by decide
 rw [ht.cell gTab i (by rw [hl];exact hi)]
 congr 2
 have:∀ i,i < 64->tabZ.getD i 0=((Lib.deBruijn64tab.getD i 0:Nat):Int):=by decide+kernel
 exact this i hi
theorem plain_arg {H:Type}{enc:TypeId×Value->H}{W:World}{sp:Nat->Bool}{held:Bool}{base b0:Nat}{r:Reach}{v:Value}{d:DataW H}{p:List MemPlace} (hv:Value.okWide Tryz.prog W r b0 25 v) (h:DataW.Trod enc Tryz.prog W base sp held 25 v d p) :
  ∃ h x f t,v=plV h x f/\PV (fun _=>False) W t h x f/\cntP t<=Rows.uptoBulk d/\FitP t:=by
 obtain ⟨cs,rfl,hsz⟩:=okWide_struct Tryz.underlying25 hv
 obtain ⟨l⟩:=cs
 match l,hsz.trans Qjq with
 | [a0,a1,a2],_ =>
  obtain ⟨fuel,hf⟩:=h
  obtain ⟨t,h,y,f,e,h1,h2,h3⟩:=Qgu fuel fuel _ _ (Nat.le_refl _) hf
  have e2:[a0,a1,a2]=[sv h,sv y,Value.int .i64 f]:=e
  exact ⟨h,y,f,t,by rw [e2],h1,h3,h2⟩
theorem contract (H:Type) (enc:TypeId×Value->H) (W:World) (base:Nat) (args:Array Value) (ds gs:List (DataW H)) (before:List MemPlace)
  (hval:∀ (j:Nat) t v,Tryz.f3.params[j]?=some t->args[j]?=some v->Value.okWide Tryz.prog W .any base t v)
  (hW:DataW.Whole enc Tryz.prog Tryz.f3.params.toList Rows.idiomReducesSpec.vars false W args.toList ds gs before) (hk:Rows.uptoSmall H (ds++gs)=true) (hL:laidMetH Tryz.prog Rows.idiomReducesUptoRow.laid W) :
  Calls Tryz.prog 3 args W fun e W'=>∃ v,e= .returned v/\Rows.idiomReducesSpec.post enc Tryz.prog Tryz.f3 false true false false W args v W':=by
 have hW':=hW
 obtain ⟨p,q,hA0,hV,rfl,hfz,hnd⟩:=hW
 have hA:DataW.TrodAll enc Tryz.prog W 0 (fun _=>true) true Tryz.f3.params.toList args.toList ds p:=hA0
 rw [Tryz.params3] at hA hval
 obtain ⟨v0,vs0,d0,ds0,p0,q0,hargs,rfl,rfl,h0,r0⟩:=trodAll_cons hA
 obtain ⟨v1,vs1,d1,ds1,p1,q1,rfl,rfl,rfl,h1,r1⟩:=trodAll_cons r0
 obtain ⟨v2,vs2,d2,ds2,p2,q2,rfl,rfl,rfl,h2,r2⟩:=trodAll_cons r1
 obtain ⟨v3,vs3,d3,ds3,p3,q3,rfl,rfl,rfl,h3,r3⟩:=trodAll_cons r2
 obtain ⟨v4,vs4,d4,ds4,p4,q4,rfl,rfl,rfl,h4,r4⟩:=trodAll_cons r3
 obtain ⟨rfl,rfl,rfl⟩:=trodAll_nil r4
 obtain rfl:args=#[v0,v1,v2,v3,v4]:=by cases args;simp_all
 obtain ⟨rfl,rfl⟩:=trodVars_none hV
 have hb:=of_decide_eq_true hk
 simp only [List.append_nil,Rows.uptoBulkAll] at hb
 obtain ⟨x0,rfl,rfl,rfl,wf0⟩:=open_int Tryz.underlying5 (hval 0 5 v0 rfl rfl) h0
 obtain ⟨x1,rfl,rfl,rfl,wf1⟩:=open_int Tryz.underlying5 (hval 1 5 v1 rfl rfl) h1
 obtain ⟨s2,x2,f2,t2,rfl,hr2,hc2,hf2⟩:=plain_arg (hval 2 25 v2 rfl rfl) h2
 have k2:=h2
 have lt2:∀ x∈p2,x.block < W.heap.size:=by obtain ⟨m,hm⟩:=k2;exact DataW.trod_lt m _ _ _ hm
 obtain ⟨s3,x3,f3,t3,rfl,hr3,hc3,hf3⟩:=plain_arg (hval 3 25 v3 rfl rfl) h3
 have k3:=h3
 have lt3:∀ x∈p3,x.block < W.heap.size:=by obtain ⟨m,hm⟩:=k3;exact DataW.trod_lt m _ _ _ hm
 obtain ⟨x4,rfl,rfl,rfl,wf4⟩:=open_int Tryz.underlying26 (hval 4 26 v4 rfl rfl) h4
 clear hA0
 refine (Qoh x0 x1 t2 s2 x2 f2 t3 s3 x3 f3 x4 W hf2 (by omega) hf3 (by omega) (table hL) hr2 hr3 wf0 wf1 wf4).mono fun e W' ⟨he,bel⟩=>?_
 subst he
 exact ⟨_,rfl,_,_,_,[],_,[],hW',trodAll_mk1 (shut_bool Tryz.underlying4 _),(trodAll_cons_mk (shut_int Tryz.underlying5 wf0) (trodAll_cons_mk (shut_int Tryz.underlying5 wf1) (trodAll_cons_mk (Below.trod laidOut (by kernel_rfl) (of_decide_eq_true (by kernel_rfl)) k2 bel lt2) (trodAll_cons_mk (Below.trod laidOut (by kernel_rfl) (of_decide_eq_true (by kernel_rfl)) k3 bel lt3) (trodAll_cons_mk (shut_int Tryz.underlying26 wf4) trodAll_mk0))))),rfl,bel.frame _,fun h=>by cases h⟩
noncomputable def laidWorld (os:Os):World :=
 { World.holding Tryz.prog os ⟨#[],#[],[]⟩ with heap:=(World.holding Tryz.prog os ⟨#[],#[],[]⟩).heap.modify 0 fun
   | .cells _ t frozen => .cells (tabZ.map (Value.int .u8)).toArray t frozen
   | o=>o}
theorem laid_met (os:Os):laidMet Tryz.prog Rows.idiomReducesUptoRow.laid ((laidWorld os).forCall (fun _ _=>0) ⟨#[],#[.int .u8 0,.int .u8 0,.agg #[.slice none 0 0,.slice none 0 0,.int .i64 0],.agg #[.slice none 0 0,.slice none 0 0,.int .i64 0],.int .u16 0],[]⟩).memory :=
 laidMet_of_run' 8 (by kernel_rfl) (by kernel_rfl)
theorem reads (os:Os){H:Type} (enc:TypeId×Value->H):∃ places,DataW.whole enc Tryz.prog ((laidWorld os).forCall (fun _ _=>0) ⟨#[],#[.int .u8 0,.int .u8 0,.agg #[.slice none 0 0,.slice none 0 0,.int .i64 0],.agg #[.slice none 0 0,.slice none 0 0,.int .i64 0],.int .u16 0],[]⟩).memory Tryz.f3.params.toList Rows.idiomReducesSpec.vars false #[Value.int .u8 0,Value.int .u8 0,Value.agg #[.slice none 0 0,.slice none 0 0,.int .i64 0],Value.agg #[.slice none 0 0,.slice none 0 0,.int .i64 0],Value.int .u16 0].toList 8=some ([.lit (.int .u8 0),.lit (.int .u8 0),.agg [.nil,.nil,.lit (.int .i64 0)],.agg [.nil,.nil,.lit (.int .i64 0)],.lit (.int .u16 0)],[],places) :=
 ⟨[],by kernel_rfl⟩
theorem lifted (os:Os) (started:os.Started) (H:Type) (enc:TypeId×Value->H) (F:Stop.Interp) :
  ReturnsInHanded {} Tryz.checked os 3 .any ((Rows.OpenSpec.upto Rows.idiomReducesSpec).preRow enc Tryz.prog Tryz.f3 Rows.idiomReducesUptoRow.domain false Rows.idiomReducesUptoRow.laid) (((Rows.OpenSpec.upto Rows.idiomReducesSpec).at F).post enc Tryz.prog Tryz.f3 false true false false):=by
 obtain ⟨places,hx⟩:=reads os enc
 refine returnsInHanded_of_row (C:=Tryz.checked) (s:=Rows.OpenSpec.upto Rows.idiomReducesSpec) own started (by kernel_rfl) Tryz.func3
  (witness_row_at (enc:=enc) (C:=Tryz.checked) false (laidWorld os) #[.int .u8 0,.int .u8 0,.agg #[.slice none 0 0,.slice none 0 0,.int .i64 0],.agg #[.slice none 0 0,.slice none 0 0,.int .i64 0],.int .u16 0] rfl (by kernel_rfl) (by kernel_rfl) (by kernel_rfl)
   (OpenSpec.preRow_of_cond 8 hx (by kernel_rfl) (fun k hk=>by cases hk;kernel_rfl) (by kernel_rfl) (laid_met os))) ?_
 intro W base args ds gs before hval hW _ hcond _ hL _ _
 exact contract H enc W base args ds gs before hval hW (hcond _ rfl) hL
theorem closed:joinedFacts Tryz.checked.prog 3 Tryz.f3 (Rows.OpenSpec.upto Rows.idiomReducesSpec).bare Rows.idiomReducesUptoRow=true:=by
 unfold joinedFacts
 simp only [Bool.and_eq_true]
 repeat' apply And.intro
 all_goals (as_aux_lemma=>kernel_rfl)
theorem said:Rows.IdiomReducesUptoSaid :=
 OpenClaim.holds_of_cond 3 Tryz.f3 rfl rfl rfl rfl rfl rfl rfl ⟨rfl,rfl,rfl,rfl,rfl⟩ rfl rfl rfl rfl rfl (by kernel_rfl) Tryz.func3 closed
  (of_decide_eq_true (by kernel_rfl)) (by unfold Func.isWrapper;first | (rw [if_pos (by decide+kernel)];kernel_rfl) | (rw [if_neg (by decide+kernel)];exact ⟨rfl,rfl⟩))
  (fun os started H enc _ F=>by rw [OpenClaim.pre_eq_preRow];exact lifted os started H enc F)
theorem plain (f : FuncId) (fn : Func) (hf : Tryz.pinned.checked.prog.funcNamed "rebus/rebuslaw34.IdiomReduces" = some f) (hfn : Tryz.pinned.checked.prog.funcs[f]? = some fn) :
  false=Tryz.pinned.checked.prog.looks []/\∀ (j:Nat) t,fn.params[j]?=some t->Tryz.pinned.checked.prog.wantsStandIn t=false:=by
 obtain rfl : f = 3 := Option.some.inj ((show Tryz.prog.funcNamed "rebus/rebuslaw34.IdiomReduces" = some 3 by kernel_rfl).symm.trans hf) |>.symm
 obtain rfl:fn=Tryz.f3:=(Option.some.inj (Tryz.func3.symm.trans hfn)).symm
 refine ⟨by kernel_rfl,fun j t ht=>?_⟩
 rw [Tryz.params3] at ht
 have hm:t∈[5,5,25,25,26]:=by simpa using Array.mem_of_getElem? ht
 have hall:([5,5,25,25,26].all fun u => !Tryz.prog.wantsStandIn u)=true:=by kernel_rfl
 exact (show Tryz.prog.wantsStandIn t=false by simpa using List.all_eq_true.1 hall t hm)
end Go.Proofs.YtdelgpelkfndeaaGreatDoor.idiomReducesP
namespace Go.Proofs.YtdelgpelkfndeaaGreatDoor
theorem idiomReduces_card:Rows.IdiomReducesUptoCardSaid :=
 Claim7.holds_tied_plain_at .later [] _ _ _ _ idiomReducesP.said (fun _ h=>by cases h) (by kernel_rfl) (fun _ h=>by cases h) idiomReducesUpto_row_tie rfl ⟨rfl,rfl⟩ (by kernel_rfl) rfl idiomReducesP.plain (by kernel_rfl)
end Go.Proofs.YtdelgpelkfndeaaGreatDoor
