/- The statement EachGathers, where what it reads is of bulk at most 1048576: the call returns true, and each argument reads afterwards as it read before. Conditions: that bulk; the row's own. -/
import Derived.Test.YtakgmnafbjdccaaGreatDoorCards
import Derived.Test.YtakgmnafbjdccaaGreatDoorTie
import Derived.Test.YtakgmnafbjdccaaGreatDoorMg38
import Derived.Test.YtakgmnafbjdccaaGreatDoorMg37
import Derived.ProofKit
import Derived.OpenShut
import Derived.JoinedCond
import Derived.Deep.DeepHandedRow
import Derived.Lib.LaidTab
import Derived.Lib.TrailingZeros
import Derived.ChangeOld
import Derived.Below
import Derived.LaidLaws
import Derived.LaidHandle
import Derived.Stop.Joined
set_option maxRecDepth 100000
set_option maxHeartbeats 0
namespace Go.Proofs.YtakgmnafbjdccaaGreatDoor.eachGathersP
open Go.ChangeShapes Go.WideShapes Go.ChangeAt Go.RowKit Go.Deep
open Go.Proofs.YtakgmnafbjdccaaGreatDoor Fl
theorem own:ownKnob Tryz.prog.godebug=none:=by kernel_rfl
theorem laidOut:laidOutB Tryz.prog=true:=by kernel_rfl
theorem gTab : Tryz.prog.globalNamed "math/bits.deBruijn64tab" = some 1 := by kernel_rfl
theorem gTabType:(Tryz.prog.globals[1]?).map (·.type)=some 306:=by kernel_rfl
theorem cellsA:Tryz.prog.cellsOf 306=64:=by kernel_rfl
theorem cellsE:Tryz.prog.cellsOf 5=1:=by kernel_rfl
def tabZ:List Int:=Lib.deBruijn64tab.map Int.ofNat
theorem table {W:World} (h:laidMetH Tryz.prog Rows.eachGathersUptoRow.laid W):TzTab W:=by
 have h' : laidMet Tryz.prog [("math/bits.deBruijn64tab", Rows.laid_math_bits_deBruijn64tab)] W ∧ handlesMet Tryz.prog [("errors.errorType", Rows.laid_errors_errorType)] W := h
 have ht : Lib.TabIs Tryz.prog W "math/bits.deBruijn64tab" .u8 tabZ :=
  Lib.tabIs_of_head (rest:=[]) gTab gTabType Tryz.underlying306 Tryz.underlying5 cellsE cellsA h'.1
 intro i hi
 have hl:tabZ.length=64:=by decide
 rw [ht.cell gTab i (by rw [hl];exact hi)]
 congr 2
 have:∀ i,i < 64->tabZ.getD i 0=((Lib.deBruijn64tab.getD i 0:Nat):Int):=by decide+kernel
 exact this i hi
theorem plain_arg {H:Type}{enc:TypeId×Value->H}{W:World}{sp:Nat->Bool}{held:Bool}{base b0:Nat}{r:Reach}{v:Value}{d:DataW H}{p:List MemPlace} (hv:Value.okWide Tryz.prog W r b0 25 v) (h:DataW.Trod enc Tryz.prog W base sp held 25 v d p) :
  ∃ h x f t,v=plV h x f/\PV (fun _=>False) W t h x f/\cntP t<=Rows.uptoBulk d/\FitP t:=by
 obtain ⟨cs,rfl,hsz⟩:=okWide_struct Tryz.underlying25 hv
 obtain ⟨l⟩:=cs
 match l,hsz.trans c_plain with
 | [a0,a1,a2],_ =>
  obtain ⟨fuel,hf⟩:=h
  obtain ⟨t,h,y,f,e,h1,h2,h3⟩:=plain_open fuel fuel _ _ (Nat.le_refl _) hf
  have e2:[a0,a1,a2]=[sv h,sv y,Value.int .i64 f]:=e
  exact ⟨h,y,f,t,by rw [e2],h1,h3,h2⟩
theorem contract (H:Type) (enc:TypeId×Value->H) (W:World) (base:Nat) (args:Array Value) (ds gs:List (DataW H)) (before:List MemPlace)
  (hval:∀ (j:Nat) t v,Tryz.f5.params[j]?=some t->args[j]?=some v->Value.okWide Tryz.prog W .any base t v)
  (hW:DataW.Whole enc Tryz.prog Tryz.f5.params.toList Rows.eachGathersSpec.vars false W args.toList ds gs before) (hk:Rows.uptoSmall H (ds++gs)=true) (hL:laidMetH Tryz.prog Rows.eachGathersUptoRow.laid W) :
  Calls Tryz.prog 5 args W fun e W'=>∃ v,e= .returned v/\Rows.eachGathersSpec.post enc Tryz.prog Tryz.f5 false true false false W args v W':=by
 have hW':=hW
 obtain ⟨p,q,hA0,hV,rfl,hfz,hnd⟩:=hW
 have hA:DataW.TrodAll enc Tryz.prog W 0 (fun _=>true) true Tryz.f5.params.toList args.toList ds p:=hA0
 rw [Tryz.params5] at hA hval
 obtain ⟨v0,vs0,d0,ds0,p0,q0,hargs,rfl,rfl,h0,r0⟩:=trodAll_cons hA
 obtain ⟨rfl,rfl,rfl⟩:=trodAll_nil r0
 obtain rfl:args=#[v0]:=by cases args;simp_all
 obtain ⟨rfl,rfl⟩:=trodVars_none hV
 have hb:=of_decide_eq_true hk
 simp only [List.append_nil,Rows.uptoBulkAll] at hb
 obtain ⟨s0,x0,f0,t0,rfl,hr0,hc0,hf0⟩:=plain_arg (hval 0 25 v0 rfl rfl) h0
 have k0:=h0
 have lt0:∀ x∈p0,x.block < W.heap.size:=by obtain ⟨m,hm⟩:=k0;exact DataW.trod_lt m _ _ _ hm
 clear hA0
 refine (eGathers_any t0 s0 x0 f0 W hf0 (by omega) (table hL) hr0).mono fun e W' ⟨he,bel⟩=>?_
 subst he
 exact ⟨_,rfl,_,_,_,[],_,[],hW',trodAll_mk1 (shut_bool Tryz.underlying4 _),(trodAll_cons_mk (Below.trod laidOut (by kernel_rfl) (of_decide_eq_true (by kernel_rfl)) k0 bel lt0) trodAll_mk0),rfl,bel.frame _,fun h=>by cases h⟩
noncomputable def setG (w:World) (g:Nat) (cs:Array Value):World :=
 { w with heap:=w.heap.modify g fun
   | .cells _ t frozen => .cells cs t frozen
   | o=>o}
noncomputable def laidWorld (os:Os):World :=
 setG (setG (World.holding Tryz.prog os ⟨#[],#[],[]⟩) 0 #[.iface 242 (.agg #[.pointer (some ⟨2,65,none⟩)])])
  1 (tabZ.map (Value.int .u8)).toArray
theorem laid_met (os:Os):laidMetH Tryz.prog Rows.eachGathersUptoRow.laid ((laidWorld os).forCall (fun _ _=>0) ⟨#[],#[.agg #[.slice none 0 0,.slice none 0 0,.int .i64 0]],[]⟩).memory :=
 laidMetH_of_parts (laidMet_of_run' 8 (by kernel_rfl) (by kernel_rfl)) (by kernel_rfl)
theorem reads (os:Os){H:Type} (enc:TypeId×Value->H):∃ places,DataW.whole enc Tryz.prog ((laidWorld os).forCall (fun _ _=>0) ⟨#[],#[.agg #[.slice none 0 0,.slice none 0 0,.int .i64 0]],[]⟩).memory Tryz.f5.params.toList Rows.eachGathersSpec.vars false #[Value.agg #[.slice none 0 0,.slice none 0 0,.int .i64 0]].toList 8=some ([.agg [.nil,.nil,.lit (.int .i64 0)]],[],places) :=
 ⟨[],by kernel_rfl⟩
theorem lifted (os:Os) (started:os.Started) (H:Type) (enc:TypeId×Value->H) (F:Stop.Interp) :
  ReturnsInHanded {} Tryz.checked os 5 .any ((Rows.OpenSpec.upto Rows.eachGathersSpec).preRow enc Tryz.prog Tryz.f5 Rows.eachGathersUptoRow.domain false Rows.eachGathersUptoRow.laid) (((Rows.OpenSpec.upto Rows.eachGathersSpec).at F).post enc Tryz.prog Tryz.f5 false true false false):=by
 obtain ⟨places,hx⟩:=reads os enc
 refine returnsInHanded_of_row (C:=Tryz.checked) (s:=Rows.OpenSpec.upto Rows.eachGathersSpec) own started (by kernel_rfl) Tryz.func5
  (witness_row_at (enc:=enc) (C:=Tryz.checked) false (laidWorld os) #[.agg #[.slice none 0 0,.slice none 0 0,.int .i64 0]] rfl (by kernel_rfl) (by kernel_rfl) (by kernel_rfl)
   (OpenSpec.preRow_of_cond 8 hx (by kernel_rfl) (fun k hk=>by cases hk;kernel_rfl) (by kernel_rfl) (laid_met os))) ?_
 intro W base args ds gs before hval hW _ hcond _ hL _ _
 exact contract H enc W base args ds gs before hval hW (hcond _ rfl) hL
theorem closed:joinedFacts Tryz.checked.prog 5 Tryz.f5 (Rows.OpenSpec.upto Rows.eachGathersSpec).bare Rows.eachGathersUptoRow=true:=by
 unfold joinedFacts
 simp only [Bool.and_eq_true]
 repeat' apply And.intro
 all_goals (as_aux_lemma=>kernel_rfl)
theorem said:Rows.EachGathersUptoSaid :=
 OpenClaim.holds_of_cond 5 Tryz.f5 rfl rfl rfl rfl rfl rfl rfl ⟨rfl,rfl,rfl,rfl,rfl⟩ rfl rfl rfl rfl rfl (by kernel_rfl) Tryz.func5 closed
  (of_decide_eq_true (by kernel_rfl)) (by unfold Func.isWrapper;first | (rw [if_pos (by decide+kernel)];kernel_rfl) | (rw [if_neg (by decide+kernel)];exact ⟨rfl,rfl⟩))
  (fun os started H enc _ F=>by rw [OpenClaim.pre_eq_preRow];exact lifted os started H enc F)
theorem plain (f : FuncId) (fn : Func) (hf : Tryz.pinned.checked.prog.funcNamed "rebus/rebuslaw25.EachGathers" = some f) (hfn : Tryz.pinned.checked.prog.funcs[f]? = some fn) :
  true=Tryz.pinned.checked.prog.looks []/\∀ (j:Nat) t,fn.params[j]?=some t->Tryz.pinned.checked.prog.wantsStandIn t=false:=by
 obtain rfl : f = 5 := Option.some.inj ((show Tryz.prog.funcNamed "rebus/rebuslaw25.EachGathers" = some 5 by kernel_rfl).symm.trans hf) |>.symm
 obtain rfl:fn=Tryz.f5:=(Option.some.inj (Tryz.func5.symm.trans hfn)).symm
 refine ⟨by kernel_rfl,fun j t ht=>?_⟩
 rw [Tryz.params5] at ht
 have hm:t∈[25]:=by simpa using Array.mem_of_getElem? ht
 have hall:([25].all fun u => !Tryz.prog.wantsStandIn u)=true:=by kernel_rfl
 exact (show Tryz.prog.wantsStandIn t=false by simpa using List.all_eq_true.1 hall t hm)
end Go.Proofs.YtakgmnafbjdccaaGreatDoor.eachGathersP
namespace Go.Proofs.YtakgmnafbjdccaaGreatDoor
theorem eachGathers_card:Rows.EachGathersUptoCardSaid :=
 Claim7.holds_tied_plain_at .later [] _ _ _ _ eachGathersP.said (fun _ h=>by cases h) (by kernel_rfl) (fun _ h=>by cases h) eachGathersUpto_row_tie rfl ⟨rfl,rfl⟩ (by kernel_rfl) rfl eachGathersP.plain (by kernel_rfl)
end Go.Proofs.YtakgmnafbjdccaaGreatDoor
