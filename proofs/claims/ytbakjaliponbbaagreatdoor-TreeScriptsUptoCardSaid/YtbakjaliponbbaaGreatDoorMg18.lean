/- Trees of the shape that their text wants; their text, and how long it is. Printed by gen_trxg.py. The plain law. The writer's node at numbers, texts and .. Conditions: as each theorem says. -/
import Derived.Test.YtbakjaliponbbaaGreatDoorMg05
import Derived.Test.YtbakjaliponbbaaGreatDoorMg14
import Derived.Test.YtbakjaliponbbaaGreatDoorMg17
set_option maxRecDepth 100000
set_option maxHeartbeats 1600000
namespace Go.Proofs.YtbakjaliponbbaaGreatDoor
open Go Go.RowKit Go.Proofs Fl
inductive GT:RTree->Prop where
 | k1 {nums:List Nat} {text:List Int} {name:ByteArray} {c:Int} {kids:List RTree} (hf:nums.all isFin=true) (h0:0 < nums.length) (hx:∀ x∈nums,x < 18446744073709551616) (hl:nums.length<=1048576):GT (.mk 1 nums text name c kids)
 | k2 {nums:List Nat} {text:List Int} {name:ByteArray} {c:Int} {kids:List RTree} (hl:text.length<=1048576):GT (.mk 2 nums text name c kids)
 | k3 {nums:List Nat} {text:List Int} {name:ByteArray} {c:Int} {k:Int} {kids:List RTree} (hk:k=3\/k=14) (hz:name.size<=70368744177664) (hne:runesOf name≠[]):GT (.mk k nums text name c kids)
 | k4 {nums:List Nat} {text:List Int} {name:ByteArray} {c:Int} {k:Int} {kids:List RTree} (hk:k=4\/k=5\/k=6\/k=13):GT (.mk k nums text name c kids)
 | k7 {nums:List Nat} {text:List Int} {name:ByteArray} {c:Int} {kids:List RTree} (hl:kids.length<=1048576) (h:∀ i (hi:i < kids.length),GT kids[i]):GT (.mk 7 nums text name c kids)
 | k8 {nums:List Nat} {text:List Int} {name:ByteArray} {c:Int} {t0:RTree} {ts:List RTree} (h0:GT t0) (hp:0 < ts.length) (hl:ts.length<=1048576) (h:∀ i (hi:i < ts.length),GT ts[i]):GT (.mk 8 nums text name c (t0::ts))
 | k9 {nums:List Nat} {text:List Int} {name:ByteArray} {c:Int} {t0 t1:RTree} (h0:GT t0) (h1:GT t1):GT (.mk 9 nums text name c [t0,t1])
 | k10 {nums:List Nat} {text:List Int} {name:ByteArray} {c:Int} {t0 t1 t2:RTree} (h0:GT t0) (h1:GT t1) (h2:GT t2):GT (.mk 10 nums text name c [t0,t1,t2])
 | k11 {nums:List Nat} {text:List Int} {name:ByteArray} {c:Int} {k:Int} {t0:RTree} (hk:k=11\/k=20) (hz:name.size<=70368744177664) (hne:runesOf name≠[]) (h0:GT t0):GT (.mk k nums text name c [t0])
 | k12 {nums:List Nat} {text:List Int} {name:ByteArray} {c:Int} {t0:RTree} {ts:List RTree} (hz:name.size<=70368744177664) (hne:runesOf name≠[]) (h0:GT t0) (hp:0 < ts.length) (hl:ts.length<=1048576) (h:∀ i (hi:i < ts.length),GT ts[i]):GT (.mk 12 nums text name c (ts++[t0]))
 | k15 {nums:List Nat} {text:List Int} {name:ByteArray} {c:Int} {kids:List RTree} (hl:kids.length<=1048576) (h:∀ i (hi:i < kids.length),GT kids[i]):GT (.mk 15 nums text name c kids)
 | k16 {nums:List Nat} {text:List Int} {name:ByteArray} {c:Int} {t0:RTree} (h0:GT t0):GT (.mk 16 nums text name c [t0])
 | k17 {nums:List Nat} {text:List Int} {name:ByteArray} {c:Int} {t0 t1:RTree} (h0:GT t0) (h1:GT t1) (hk:13<=kindR t1):GT (.mk 17 nums text name c [t0,t1])
 | k18 {nums:List Nat} {text:List Int} {name:ByteArray} {c:Int} {t0:RTree} (h0:GT t0) (hk:13<=kindR t0):GT (.mk 18 nums text name c [t0])
 | k19 {nums:List Nat} {text:List Int} {name:ByteArray} {c:Int} {t0 t1:RTree} (h0:GT t0) (h1:GT t1):GT (.mk 19 nums text name c [t0,t1])
 | k21 {nums:List Nat} {text:List Int} {name:ByteArray} {c:Int} {kids:List RTree}:GT (.mk 21 nums text name c kids)
theorem pl_len {k:Int}{nums:List Nat}{text:List Int}{name:ByteArray}{c:Int}{kids:List RTree}{n:Int}{nm ch:Bool} (hn:0<=n) (h:plainB k nums text name c kids n nm ch=true):(kids.length:Int)=n:=by
 rw [pl_n hn] at h
 simp only [Bool.and_eq_true,decide_eq_true_eq] at h
 exact h.1
theorem good_ne {l:List Int} (h:goodNB l=true):l≠[]:=by
 rintro rfl
 unfold goodNB at h
 simp at h
theorem gdl_snoc2:∀ (ts:List RTree) (t:RTree) (a b:Nat),gdl (ts++[t]) a b=true->(∀ x∈ts,gd x a=true)/\gd t b=true
 | [],t,a,b,h=>⟨fun _ hx=>absurd hx (by simp),by rw [List.nil_append,gdl] at h;exact h⟩
 | t0::ts,t,a,b,h=>by
  rw [List.cons_append] at h
  obtain ⟨u,us,e⟩:∃ u us,ts++[t]=u::us:=by cases ts with | nil=>exact ⟨_,_,rfl⟩ | cons x r=>exact ⟨_,_,rfl⟩
  rw [e,gdl,<- e] at h
  simp only [Bool.and_eq_true] at h
  obtain ⟨h1,h2⟩:=gdl_snoc2 ts t a b h.2
  exact ⟨fun x hx=>by
   rcases List.mem_cons.1 hx with rfl | hx
   ·exact h.1
   ·exact h1 x hx,h2⟩
theorem fun_kind {t:RTree} (h:gd t 1=true):13<=kindR t:=by
 cases t with
 | mk k nums text name c kids =>
  show (13:Int)<=k
  by_cases hk:k < 13\/18 < k
  ·rw [gd_1_no hk] at h;cases h
  ·omega
theorem one_kid {l:List RTree} (h:(l.length:Int)=1):∃ t0,l=[t0]:=by
 match l,h with
 | [t0],_=>exact ⟨t0,rfl⟩
 | [],h=>simp at h
 | _::_::_,h=>simp at h;omega
theorem two_kids {l:List RTree} (h:(l.length:Int)=2):∃ t0 t1,l=[t0,t1]:=by
 match l,h with
 | [t0,t1],_=>exact ⟨t0,t1,rfl⟩
 | [],h=>simp at h
 | [_],h=>simp at h
 | _::_::_::_,h=>simp at h;omega
theorem three_kids {l:List RTree} (h:(l.length:Int)=3):∃ t0 t1 t2,l=[t0,t1,t2]:=by
 match l,h with
 | [t0,t1,t2],_=>exact ⟨t0,t1,t2,rfl⟩
 | [],h=>simp at h
 | [_],h=>simp at h
 | [_,_],h=>simp at h
 | _::_::_::_::_,h=>simp at h;omega
theorem gt_0 {k:Int}{nums:List Nat}{text:List Int}{name:ByteArray}{c:Int}{kids:List RTree} (IH:∀ t∈kids,∀ s,s<=3->gd t s=true->GT t) (hf:nums.length<=1048576/\(∀ x∈nums,x < 18446744073709551616)/\text.length<=1048576/\name.size<=70368744177664/\kids.length<=1048576) (h:gd (.mk k nums text name c kids) 0=true):GT (.mk k nums text name c kids):=by
 by_cases hk:k < 1\/12 < k
 ·rw [gd_0_no hk] at h;exact absurd h (by decide)
 have hr:k=1\/k=2\/k=3\/k=4\/k=5\/k=6\/k=7\/k=8\/k=9\/k=10\/k=11\/k=12:=by omega
 clear hk
 rcases hr with rfl | rfl | rfl | rfl | rfl | rfl | rfl | rfl | rfl | rfl | rfl | rfl
 ·rw [gd_0_1] at h
  try simp only [Bool.and_eq_true] at h
  exact .k1 h.2 (by simpa using h.1.1) hf.2.1 hf.1
 ·rw [gd_0_2] at h
  try simp only [Bool.and_eq_true] at h
  exact .k2 hf.2.2.1
 ·rw [gd_0_3] at h
  try simp only [Bool.and_eq_true] at h
  exact .k3 (.inl rfl) hf.2.2.2.1 (good_ne h.1.2)
 ·rw [gd_0_4] at h
  try simp only [Bool.and_eq_true] at h
  exact .k4 (.inl rfl)
 ·rw [gd_0_5] at h
  try simp only [Bool.and_eq_true] at h
  exact .k4 (.inr (.inl rfl))
 ·rw [gd_0_6] at h
  try simp only [Bool.and_eq_true] at h
  exact .k4 (.inr (.inr (.inl rfl)))
 ·rw [gd_0_7] at h
  try simp only [Bool.and_eq_true] at h
  rw [gds_eq] at h;exact .k7 hf.2.2.2.2 (fun i hi=>IH _ (List.getElem_mem hi) 0 (by decide) (List.all_eq_true.1 h.2 _ (List.getElem_mem hi)))
 ·rw [gd_0_8] at h
  try simp only [Bool.and_eq_true] at h
  match kids,h,IH,hf with
  | [],h,_,_=>exact absurd h.1.2 (by simp)
  | t0::ts,h,IH,hf =>
   have h2:=h.2
   rw [gdh,gds_eq] at h2
   simp only [Bool.and_eq_true] at h2
   exact .k8 (IH _ (by simp) 0 (by decide) h2.1) (by have:=h.1.2;simp at this;exact this) (by have:=hf.2.2.2.2;simp at this;omega) fun i hi=>IH _ (List.mem_cons_of_mem _ (List.getElem_mem hi)) 2 (by decide) (List.all_eq_true.1 h2.2 _ (List.getElem_mem hi))
 ·rw [gd_0_9] at h
  try simp only [Bool.and_eq_true] at h
  obtain ⟨t0,t1,rfl⟩:=two_kids (pl_len (by decide) h.1)
  have h2:=h.2
  rw [gdh,gds,gds] at h2
  simp only [Bool.and_eq_true] at h2
  exact .k9 (IH _ (by simp) 1 (by decide) h2.1) (IH _ (by simp) 0 (by decide) h2.2.1)
 ·rw [gd_0_10] at h
  try simp only [Bool.and_eq_true] at h
  obtain ⟨t0,t1,t2,rfl⟩:=three_kids (pl_len (by decide) h.1)
  have h2:=h.2
  rw [gdh,gds,gds,gds] at h2
  simp only [Bool.and_eq_true] at h2
  exact .k10 (IH _ (by simp) 1 (by decide) h2.1) (IH _ (by simp) 0 (by decide) h2.2.1) (IH _ (by simp) 0 (by decide) h2.2.2.1)
 ·rw [gd_0_11] at h
  try simp only [Bool.and_eq_true] at h
  obtain ⟨t0,rfl⟩:=one_kid (pl_len (by decide) h.1.1.1)
  have h2:=h.2
  rw [gds] at h2
  simp only [Bool.and_eq_true] at h2
  exact .k11 (.inl rfl) hf.2.2.2.1 (good_ne h.1.1.2) (IH _ (by simp) 0 (by decide) h2.1)
 ·rw [gd_0_12] at h
  try simp only [Bool.and_eq_true] at h
  obtain ⟨ts,t0,rfl⟩:∃ ts t0,kids=ts++[t0]:=⟨kids.dropLast,kids.getLast (by rintro rfl;simp at h),(List.dropLast_concat_getLast _).symm⟩
  obtain ⟨h2,h3⟩:=gdl_snoc2 _ _ _ _ h.2
  exact .k12 hf.2.2.2.1 (good_ne h.1.1.2) (IH _ (by simp) 0 (by decide) h3) (by have:=h.1.1.1.2;simp at this;omega) (by have:=hf.2.2.2.2;simp at this;omega) fun i hi=>IH _ (List.mem_append_left _ (List.getElem_mem hi)) 2 (by decide) (h2 _ (List.getElem_mem hi))
theorem gt_1 {k:Int}{nums:List Nat}{text:List Int}{name:ByteArray}{c:Int}{kids:List RTree} (IH:∀ t∈kids,∀ s,s<=3->gd t s=true->GT t) (hf:nums.length<=1048576/\(∀ x∈nums,x < 18446744073709551616)/\text.length<=1048576/\name.size<=70368744177664/\kids.length<=1048576) (h:gd (.mk k nums text name c kids) 1=true):GT (.mk k nums text name c kids):=by
 by_cases hk:k < 13\/18 < k
 ·rw [gd_1_no hk] at h;exact absurd h (by decide)
 have hr:k=13\/k=14\/k=15\/k=16\/k=17\/k=18:=by omega
 clear hk
 rcases hr with rfl | rfl | rfl | rfl | rfl | rfl
 ·rw [gd_1_13] at h
  simp only [Bool.and_eq_true] at h
  exact .k4 (.inr (.inr (.inr rfl)))
 ·rw [gd_1_14] at h
  simp only [Bool.and_eq_true] at h
  exact .k3 (.inr rfl) hf.2.2.2.1 (good_ne h.1.2)
 ·rw [gd_1_15] at h
  simp only [Bool.and_eq_true] at h
  rw [gds_eq] at h;exact .k15 hf.2.2.2.2 (fun i hi=>IH _ (List.getElem_mem hi) 3 (by decide) (List.all_eq_true.1 h.2 _ (List.getElem_mem hi)))
 ·rw [gd_1_16] at h
  simp only [Bool.and_eq_true] at h
  obtain ⟨t0,rfl⟩:=one_kid (pl_len (by decide) h.1.1)
  have h2:=h.2
  rw [gds] at h2
  simp only [Bool.and_eq_true] at h2
  exact .k16 (IH _ (by simp) 1 (by decide) h2.1)
 ·rw [gd_1_17] at h
  simp only [Bool.and_eq_true] at h
  obtain ⟨t0,t1,rfl⟩:=two_kids (pl_len (by decide) h.1)
  have h2:=h.2
  rw [gds,gds] at h2
  simp only [Bool.and_eq_true] at h2
  exact .k17 (IH _ (by simp) 1 (by decide) h2.1) (IH _ (by simp) 1 (by decide) h2.2.1) (fun_kind h2.2.1)
 ·rw [gd_1_18] at h
  simp only [Bool.and_eq_true] at h
  obtain ⟨t0,rfl⟩:=one_kid (pl_len (by decide) h.1)
  have h2:=h.2
  rw [gds] at h2
  simp only [Bool.and_eq_true] at h2
  exact .k18 (IH _ (by simp) 1 (by decide) h2.1) (fun_kind h2.1)
theorem gt_3 {k:Int}{nums:List Nat}{text:List Int}{name:ByteArray}{c:Int}{kids:List RTree} (IH:∀ t∈kids,∀ s,s<=3->gd t s=true->GT t) (hf:nums.length<=1048576/\(∀ x∈nums,x < 18446744073709551616)/\text.length<=1048576/\name.size<=70368744177664/\kids.length<=1048576) (h:gd (.mk k nums text name c kids) 3=true):GT (.mk k nums text name c kids):=by
 by_cases hk:k=19
 ·subst hk
  rw [gd_3_19] at h
  simp only [Bool.and_eq_true] at h
  obtain ⟨t0,t1,rfl⟩:=two_kids (pl_len (by decide) h.1)
  have h2:=h.2
  rw [gds,gds] at h2
  simp only [Bool.and_eq_true] at h2
  exact .k19 (IH _ (by simp) 0 (by decide) h2.1) (IH _ (by simp) 0 (by decide) h2.2.1)
 ·by_cases hk2:k=20
  ·subst hk2
   rw [gd_3_20,gd_4] at h
   simp only [Bool.and_eq_true] at h
   obtain ⟨t0,rfl⟩:=one_kid (pl_len (by decide) h.2)
   have h2:=h.1.2
   rw [gds] at h2
   simp only [Bool.and_eq_true] at h2
   exact .k11 (.inr rfl) hf.2.2.2.1 (good_ne h.1.1.1.2) (IH _ (by simp) 1 (by decide) h2.1)
  ·rw [gd_3_no hk hk2] at h
   exact gt_0 IH hf h
theorem gt_of:∀ (N:Nat) (t:RTree) (s:Nat),s<=3->sizeR t<=N->FitG t->gd t s=true->GT t
 | 0,t,_,_,h,_,_=>by have:=sizeR_pos t;omega
 | N+1,.mk k nums text name c kids,s,hs,hN,hf,h=>by
  rw [FitG] at hf
  rw [sizeR] at hN
  have IH:∀ t∈kids,∀ s,s<=3->gd t s=true->GT t:=fun t ht s hs h=>by
   obtain ⟨i,hi,rfl⟩:=List.getElem_of_mem ht
   exact gt_of N _ s hs (by have:=sizeRs_at hi;omega) (FitGs_at hf.2.2.2.2.2 hi) h
  have hf2:nums.length<=1048576/\(∀ x∈nums,x < 18446744073709551616)/\text.length<=1048576/\name.size<=70368744177664/\kids.length<=1048576:=⟨hf.1,hf.2.1,hf.2.2.1,hf.2.2.2.1,hf.2.2.2.2.1⟩
  have hr:s=0\/s=1\/s=2\/s=3:=by omega
  rcases hr with rfl | rfl | rfl | rfl
  ·exact gt_0 IH hf2 h
  ·exact gt_1 IH hf2 h
  ·by_cases hk:k=21
   ·subst hk;exact .k21
   ·rw [gd_2_no hk] at h;exact gt_0 IH hf2 h
  ·exact gt_3 IH hf2 h
def slashT:Nat->RTree->Bool
 | 0,_=>false
 | N+1,.mk k _ _ _ c kids=>if k=13 then slashB c else if k=16\/k=17 then slashT N (kids.getD 0 default) else false
noncomputable def txF:Nat->RTree->List Int
 | 0,_=>[]
 | N+1,.mk k nums text name c kids =>
  if k=1 then numsT nums
  else if k=2 then quoT text
  else if k=3\/k=14 then runesOf name
  else if k=4 then [9082]
  else if k=5 then [9077]
  else if k=6 then [9068]
  else if k=13 then [c]
  else if k=7 then accW (txF N) kids kids.length
  else if k=15 then joinP [123] (joinP (accT (txF N) 8900 kids kids.length) [125])
  else if k=8 then joinP (wrapT (bareB (kindR (kids.getD 0 default))) (txF N (kids.getD 0 default))) (brkT (txF N) kids.tail)
  else if k=9 then joinP (wrapT (!slashT N (kids.getD 0 default)) (txF N (kids.getD 0 default))) (txF N (kids.getD 1 default))
  else if k=10 then joinP (wrapT (leftB (kindR (kids.getD 2 default))) (txF N (kids.getD 2 default))) (joinP (txF N (kids.getD 0 default)) (txF N (kids.getD 1 default)))
  else if k=11\/k=20 then joinP (runesOf name) (joinP [8592] (txF N (kids.getD 0 default)))
  else if k=12 then joinP (runesOf name) (joinP (brkT (txF N) (kids.take (kids.length - 1))) (joinP [8592] (txF N (kids.getD (kids.length - 1) default))))
  else if k=16 then joinP (txF N (kids.getD 0 default)) [c]
  else if k=17 then joinP (txF N (kids.getD 0 default)) (joinP [46] (wrapT (singleB (kindR (kids.getD 1 default))) (txF N (kids.getD 1 default))))
  else if k=18 then joinP [8728,46] (wrapT (singleB (kindR (kids.getD 0 default))) (txF N (kids.getD 0 default)))
  else if k=19 then joinP (txF N (kids.getD 0 default)) (joinP [58] (txF N (kids.getD 1 default)))
  else []
theorem tx_1 {N:Nat}{nums:List Nat}{text:List Int}{name:ByteArray}{c:Int}{kids:List RTree}:txF (N+1) (.mk 1 nums text name c kids)=numsT nums:=by rw [txF];rfl
theorem tx_2 {N:Nat}{nums:List Nat}{text:List Int}{name:ByteArray}{c:Int}{kids:List RTree}:txF (N+1) (.mk 2 nums text name c kids)=quoT text:=by rw [txF];rfl
theorem tx_3 {N:Nat}{nums:List Nat}{text:List Int}{name:ByteArray}{c:Int}{kids:List RTree}{k:Int} (hk:k=3\/k=14):txF (N+1) (.mk k nums text name c kids)=runesOf name:=by rcases hk with rfl | rfl <;> (rw [txF];rfl)
theorem tx_4 {N:Nat}{nums:List Nat}{text:List Int}{name:ByteArray}{c:Int}{kids:List RTree}:txF (N+1) (.mk 4 nums text name c kids)=[9082]:=by rw [txF];rfl
theorem tx_5 {N:Nat}{nums:List Nat}{text:List Int}{name:ByteArray}{c:Int}{kids:List RTree}:txF (N+1) (.mk 5 nums text name c kids)=[9077]:=by rw [txF];rfl
theorem tx_6 {N:Nat}{nums:List Nat}{text:List Int}{name:ByteArray}{c:Int}{kids:List RTree}:txF (N+1) (.mk 6 nums text name c kids)=[9068]:=by rw [txF];rfl
theorem tx_13 {N:Nat}{nums:List Nat}{text:List Int}{name:ByteArray}{c:Int}{kids:List RTree}:txF (N+1) (.mk 13 nums text name c kids)=[c]:=by rw [txF];rfl
theorem tx_7 {N:Nat}{nums:List Nat}{text:List Int}{name:ByteArray}{c:Int}{kids:List RTree}:txF (N+1) (.mk 7 nums text name c kids)=accW (txF N) kids kids.length:=by rw [txF];rfl
theorem tx_15 {N:Nat}{nums:List Nat}{text:List Int}{name:ByteArray}{c:Int}{kids:List RTree}:txF (N+1) (.mk 15 nums text name c kids)=joinP [123] (joinP (accT (txF N) 8900 kids kids.length) [125]):=by rw [txF];rfl
theorem tx_8 {N:Nat}{nums:List Nat}{text:List Int}{name:ByteArray}{c:Int}{t0:RTree}{ts:List RTree}:txF (N+1) (.mk 8 nums text name c (t0::ts))=joinP (wrapT (bareB (kindR t0)) (txF N t0)) (brkT (txF N) ts):=by rw [txF];rfl
theorem tx_9 {N:Nat}{nums:List Nat}{text:List Int}{name:ByteArray}{c:Int}{t0 t1:RTree}:txF (N+1) (.mk 9 nums text name c [t0,t1])=joinP (wrapT (!slashT N t0) (txF N t0)) (txF N t1):=by rw [txF];rfl
theorem tx_10 {N:Nat}{nums:List Nat}{text:List Int}{name:ByteArray}{c:Int}{t0 t1 t2:RTree}:txF (N+1) (.mk 10 nums text name c [t0,t1,t2])=joinP (wrapT (leftB (kindR t2)) (txF N t2)) (joinP (txF N t0) (txF N t1)):=by rw [txF];rfl
theorem tx_11 {N:Nat}{nums:List Nat}{text:List Int}{name:ByteArray}{c:Int}{k:Int}{t0:RTree} (hk:k=11\/k=20):txF (N+1) (.mk k nums text name c [t0])=joinP (runesOf name) (joinP [8592] (txF N t0)):=by rcases hk with rfl | rfl <;> (rw [txF];rfl)
theorem tx_12 {N:Nat}{nums:List Nat}{text:List Int}{name:ByteArray}{c:Int}{t0:RTree}{ts:List RTree}:txF (N+1) (.mk 12 nums text name c (ts++[t0]))=joinP (runesOf name) (joinP (brkT (txF N) ts) (joinP [8592] (txF N t0))):=by rw [txF];simp
theorem tx_16 {N:Nat}{nums:List Nat}{text:List Int}{name:ByteArray}{c:Int}{t0:RTree}:txF (N+1) (.mk 16 nums text name c [t0])=joinP (txF N t0) [c]:=by rw [txF];rfl
theorem tx_17 {N:Nat}{nums:List Nat}{text:List Int}{name:ByteArray}{c:Int}{t0 t1:RTree}:txF (N+1) (.mk 17 nums text name c [t0,t1])=joinP (txF N t0) (joinP [46] (wrapT (singleB (kindR t1)) (txF N t1))):=by rw [txF];rfl
theorem tx_18 {N:Nat}{nums:List Nat}{text:List Int}{name:ByteArray}{c:Int}{t0:RTree}:txF (N+1) (.mk 18 nums text name c [t0])=joinP [8728,46] (wrapT (singleB (kindR t0)) (txF N t0)):=by rw [txF];rfl
theorem tx_19 {N:Nat}{nums:List Nat}{text:List Int}{name:ByteArray}{c:Int}{t0 t1:RTree}:txF (N+1) (.mk 19 nums text name c [t0,t1])=joinP (txF N t0) (joinP [58] (txF N t1)):=by rw [txF];rfl
theorem tx_21 {N:Nat}{nums:List Nat}{text:List Int}{name:ByteArray}{c:Int}{kids:List RTree}:txF (N+1) (.mk 21 nums text name c kids)=[]:=by rw [txF];rfl
theorem node_1 (w0:World) (hT:TzTab w0) (nums:List Nat) (text:List Int) (name:ByteArray) (c:Int) (kids:List RTree) (hf:nums.all isFin=true) (h0:0 < nums.length) (hx:∀ x∈nums,x < 18446744073709551616) (hl2:nums.length<=1048576) :
  NodeP 38 w0 (.mk 1 nums text name c kids) (numsT nums):=by
 intro v0 v1 v2 v3 v4 v5 v6 w g v l ht hb hw hl
 obtain ⟨at1,nv,tv,A,cc,m,hvs,hrn,hrt,hm,hkid⟩:=ht.open_
 simp only [List.cons.injEq,and_true] at hvs
 obtain ⟨rfl,rfl,rfl,rfl,rfl,rfl,rfl⟩:=hvs
 obtain ⟨A1,c1,n1,rfl,-,-⟩:=hrn.opn
 obtain ⟨A2,c2,n2,rfl,-,-⟩:=hrt.opn
 have HD0:=Lib.hid (d9_start hb hw [.int .i64 1,.int .i64 at1,.slice A1 n1 c1,.slice A2 n2 c2,.string name,.int .i32 c,.slice A m cc] 31)
 have HNC:Hid (∀ W,Below w0.heap.size w0 W->Calls Tryz.prog 74 #[.slice A1 n1 c1] W fun e w'=>∃ v,e= .returned v/\OwnR w' W.heap.size v (numsT nums)/\Below W.heap.size W w'):=fun W hb=>lnums_any (hrn.below hb) hx hf hl2 (hT.below hb)
 have HNE:Hid (numsT nums≠[]):=(numsT_len hx hf h0).1
 have HL:Hid (l.length+(numsT nums).length<=1099511627000):=by unfold Hid;omega
 clear ht hb hw hl hkid hm hrn hrt hT hf h0 hx hl2
 generalize numsT nums=s at *
 go_enter Tryz.func38,Tryz.ntmps38
 obtain ⟨x0,x1,x2,x3,x4,x5,x6⟩:=HD0.out.c7
 go_wp2_with fail
 (with_reducible refine (HNC.out _ HD0.out.bel).mono ?_)
 rintro e w1 ⟨v1,rfl,ho,hb1⟩
 obtain ⟨gg,ccc,rfl,_⟩:=ho.form HNE.out
 have HPU:=Lib.hid (d9_putv HD0.out hb1 (World.ownsRow.lt ho gg rfl).1 ho.runes HNE.out HL.out)
 clear ho hb1 x0 x1 x2 x3 x4 x5 x6
 go_wp2_with fail
 (with_reducible refine HPU.out.mono ?_)
 rintro e w2 ⟨rfl,hd⟩
 have HF:Hid (Stepped w0 w g v (joinP l s) w2):=hd.stepped
 clear hd
 go_wp2
 go_end0
 exact ⟨rfl,HF.out⟩
theorem node_2 (w0:World) (nums:List Nat) (text:List Int) (name:ByteArray) (c:Int) (kids:List RTree) (hl2:text.length<=1048576) :
  NodeP 38 w0 (.mk 2 nums text name c kids) (quoT text):=by
 intro v0 v1 v2 v3 v4 v5 v6 w g v l ht hb hw hl
 obtain ⟨at1,nv,tv,A,cc,m,hvs,hrn,hrt,hm,hkid⟩:=ht.open_
 simp only [List.cons.injEq,and_true] at hvs
 obtain ⟨rfl,rfl,rfl,rfl,rfl,rfl,rfl⟩:=hvs
 obtain ⟨A1,c1,n1,rfl,-,-⟩:=hrn.opn
 obtain ⟨A2,c2,n2,rfl,-,-⟩:=hrt.opn
 have HD0:=Lib.hid (d9_start hb hw [.int .i64 2,.int .i64 at1,.slice A1 n1 c1,.slice A2 n2 c2,.string name,.int .i32 c,.slice A m cc] 31)
 have HQ:Hid (∀ W v1,Below w0.heap.size w0 W->WSt W w0.heap.size g v1 l->Calls Tryz.prog 75 #[.pointer (some ⟨g,0,none⟩),.slice A2 n2 c2] W fun e w'=>e= .returned (.tuple #[])/\Stepped w0 W g v1 (joinP l (quoT text)) w'):=fun W v1 h1 h2=>quote_any w0 A2 n2 c2 text (runes_of hrt) hl2 W g v1 l h1 h2 hl
 clear ht hb hw hl hkid hm hrn hrt hl2
 generalize quoT text=s at *
 go_enter Tryz.func38,Tryz.ntmps38
 obtain ⟨x0,x1,x2,x3,x4,x5,x6⟩:=HD0.out.c7
 go_wp2_with fail
 (with_reducible refine (st_call HD0.out.stepped fun v1 h1 h2=>HQ.out _ v1 h1 h2).mono ?_)
 rintro e w2 ⟨rfl,hd⟩
 have HF:Hid (Stepped w0 w g v (joinP l s) w2):=hd
 clear hd x0 x1 x2 x3 x4 x5 x6
 go_wp2
 go_end0
 exact ⟨rfl,HF.out⟩
theorem node_21 (w0:World) (nums:List Nat) (text:List Int) (name:ByteArray) (c:Int) (kids:List RTree) :
  NodeP 38 w0 (.mk 21 nums text name c kids) []:=by
 intro v0 v1 v2 v3 v4 v5 v6 w g v l ht hb hw hl
 obtain ⟨at1,A1,n1,c1,A2,n2,c2,A,m,cc,rfl,rfl,rfl,rfl,rfl,rfl,rfl,-,-,-⟩:=ht.form
 have hd0:=d9_start hb hw [.int .i64 21,.int .i64 at1,.slice A1 n1 c1,.slice A2 n2 c2,.string name,.int .i32 c,.slice A m cc] 31
 have HF:Hid (Stepped w0 w g v (joinP l []) (w.alloc (.cells #[.int .i64 21,.int .i64 at1,.slice A1 n1 c1,.slice A2 n2 c2,.string name,.int .i32 c,.slice A m cc] 31))):=by unfold Hid;rw [joinP_nil2];exact hd0.stepped
 clear ht hb hw hl hd0
 go_enter Tryz.func38,Tryz.ntmps38
 go_wp2
 go_end0
 exact ⟨rfl,HF.out⟩
theorem node_moreA (w0:World) (k:Int) (hk:k=9\/k=10\/k=11\/k=12\/k=16\/k=17\/k=18\/k=19\/k=20) (nums:List Nat) (text:List Int) (name:ByteArray) (c:Int) (kids:List RTree) (s:List Int) (HM:Hid (NodeP 80 w0 (.mk k nums text name c kids) s)) :
  NodeP 38 w0 (.mk k nums text name c kids) s:=by
 intro v0 v1 v2 v3 v4 v5 v6 w g v l ht hb hw hl
 have ht':=ht
 obtain ⟨at1,A1,n1,c1,A2,n2,c2,A,m,cc,rfl,rfl,rfl,rfl,rfl,rfl,rfl,-,-,-⟩:=ht.form
 have hb1:=(Below.refl _ w).alloc (Nat.le_refl _) (.cells #[.int .i64 k,.int .i64 at1,.slice A1 n1 c1,.slice A2 n2 c2,.string name,.int .i32 c,.slice A m cc] 31)
 obtain ⟨ha,hg⟩:=hw.below hb1
 have HP:=Lib.hid (HM.out _ _ _ _ _ _ _ _ g v l ht' (hb.trans (hb1.mono hb.size)) ha hl)
 have HG:=Lib.hid hg
 clear ht ht' hb hw hl hb1 ha hg HM
 rcases hk with rfl | rfl | rfl | rfl | rfl | rfl | rfl | rfl | rfl
 all_goals
  go_enter Tryz.func38,Tryz.ntmps38
  go_wp2_with fail
  (with_reducible refine HP.out.mono ?_)
  rintro e w1 ⟨rfl,v',hw',hg',hb'⟩
  have HF:Hid (Stepped w0 w g v (joinP l s) w1):=⟨v',hw',HG.out.trans hg',hb'⟩
  clear hw' hg' hb'
  go_wp2
  go_end0
  exact ⟨rfl,HF.out⟩
theorem slashed_no (w0:World) (k:Int) (h13:k≠13) (h16:k≠16) (h17:k≠17) (nums:List Nat) (text:List Int) (name:ByteArray) (c:Int) (kids:List RTree):TellsT 125 w0 (.mk k nums text name c kids) false:=by
 intro v0 v1 v2 v3 v4 v5 v6 w ht _
 obtain ⟨at1,A1,n1,c1,A2,n2,c2,A,m,cc,rfl,rfl,rfl,rfl,rfl,rfl,rfl,-,-,-⟩:=ht.form
 have HB:Hid (Below w.heap.size w (w.alloc (.cells #[.int .i64 k,.int .i64 at1,.slice A1 n1 c1,.slice A2 n2 c2,.string name,.int .i32 c,.slice A m cc] 31))):=bel1 w _
 have e13:(k==13)=false:=by simpa using h13
 have e16:(k==16)=false:=by simpa using h16
 have e17:(k==17)=false:=by simpa using h17
 clear ht
 go_enter Tryz.func125,Tryz.ntmps125
 go_wp2
 go_ret
 exact ⟨rfl,HB.out⟩
end Go.Proofs.YtbakjaliponbbaaGreatDoor
