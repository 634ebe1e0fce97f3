/- tree.value, tree.function, tree.index, tree.bind, tree.line told of every tree. Printed by gen_tras.py. The walks of tree.depth, Count, Good, .. Conditions: as each theorem says. -/
import Derived.Test.YtbakjaliponbbaaGreatDoorMg31
import Derived.Test.YtbakjaliponbbaaGreatDoorMg32
import Derived.Test.YtbakjaliponbbaaGreatDoorMg06
set_option maxRecDepth 100000
set_option maxHeartbeats 800000
namespace Go.Proofs.YtbakjaliponbbaaGreatDoor
open Go Go.RowKit Go.Proofs Fl
theorem len1 {l:List RTree} (h:l.length=1):∃ a,l=[a]:=by
 match l,h with
 | [a],_=>exact ⟨a,rfl⟩
theorem len2 {l:List RTree} (h:l.length=2):∃ a b,l=[a,b]:=by
 match l,h with
 | [a,b],_=>exact ⟨a,b,rfl⟩
theorem len3 {l:List RTree} (h:l.length=3):∃ a b c,l=[a,b,c]:=by
 match l,h with
 | [a,b,c],_=>exact ⟨a,b,c,rfl⟩
theorem lenM {l:List RTree} (h:1 < l.length):∃ a b r,l=a::b::r:=by
 match l,h with
 | a::b::r,_=>exact ⟨a,b,r,rfl⟩
theorem lenL {l:List RTree} (h:1 < l.length):∃ r a,l=r++[a] :=
 ⟨l.dropLast,l.getLast (by intro e;rw [e] at h;simp at h),(List.dropLast_concat_getLast _).symm⟩
theorem val_step {N:Nat} (HIV:Hid (Tells 69 (fun t=>gd t 0) (fun t=>sizeR t<=N/\FitG t))) (HIF:Hid (Tells 70 (fun t=>gd t 1) (fun t=>sizeR t<=N/\FitG t))) (HIX:Hid (Tells 117 (fun t=>gd t 2) (fun t=>sizeR t<=N/\FitG t))) :
  Tells 69 (fun t=>gd t 0) (fun t=>sizeR t<=N+1/\FitG t):=by
 rintro ⟨k,nums,text,name,c,kids⟩ v0 v1 v2 v3 v4 v5 v6 w ⟨hN,hf⟩ ht
 obtain ⟨at1,A1,n1,c1,A2,n2,c2,A,m,cc,hvs,hy⟩:=ht.node hf hN
 simp only [List.cons.injEq,and_true] at hvs
 obtain ⟨rfl,rfl,rfl,rfl,rfl,rfl,rfl⟩:=hvs
 dsimp only
 by_cases hk:k < 1\/12 < k
 ·exact val_no (hk:=hk)
 have hk2:k=1\/k=2\/k=3\/k=4\/k=5\/k=6\/k=7\/k=8\/k=9\/k=10\/k=11\/k=12:=by omega
 clear hk
 rcases hk2 with rfl | rfl | rfl | rfl | rfl | rfl | rfl | rfl | rfl | rfl | rfl | rfl
 ·by_cases h0:n1=0
  ·exact val_1a (h0:=h0) (HY:=hy)
  ·exact val_1b (h0:=by omega) (HY:=hy)
 ·exact val_2 (HY:=hy)
 ·exact val_3 (HY:=hy)
 ·exact val_4 (HY:=hy)
 ·exact val_5 (HY:=hy)
 ·exact val_6 (HY:=hy)
 ·by_cases h0:m<=1
  ·exact val_7a (h0:=h0) (HY:=hy)
  ·exact val_7b (h0:=by omega) (HY:=hy) (HIV:=HIV)
 ·by_cases h0:m<=1
  ·exact val_8a (h0:=h0) (HY:=hy)
  ·obtain ⟨t0,t1,ts,rfl⟩:=lenM (l:=kids) (by have:=hy.hm;omega)
   obtain ⟨b,o,u00,u01,u02,u03,u04,u05,u06,rfl,hr0,hc0⟩:=hy.hkid.kid0
   have ok0:sizeR t0<=_/\FitG t0:=hy.ok 0 (by simp)
   exact val_8b (h0:=by omega) (hcp:=hy.hcap) (HY:=hy) (HR0:=hr0) (HC0:=hc0) (OK0:=ok0) (HIV:=HIV) (HIX:=HIX)
 ·by_cases h0:(m:Int)≠2
  ·exact val_9a (h0:=h0) (HY:=hy)
  ·have hl:kids.length=2:=by have:=hy.hm;omega
   obtain ⟨t0,t1,rfl⟩:=len2 hl
   obtain rfl:m=2:=by have:=hy.hm;simpa using this
   obtain ⟨b,o,u00,u01,u02,u03,u04,u05,u06,rfl,hr0,hc0⟩:=hy.hkid.kid0
   obtain ⟨u10,u11,u12,u13,u14,u15,u16,hr1,hc1⟩:=hy.hkid.kid1
   have ok0:sizeR t0<=_/\FitG t0:=hy.ok 0 (by simp)
   have ok1:sizeR t1<=_/\FitG t1:=hy.ok 1 (by simp)
   exact val_9b (HY:=hy) (HR0:=hr0) (HC0:=hc0) (OK0:=ok0) (HR1:=hr1) (HC1:=hc1) (OK1:=ok1) (HIV:=HIV) (HIF:=HIF)
 ·by_cases h0:(m:Int)≠3
  ·exact val_10a (h0:=h0) (HY:=hy)
  ·have hl:kids.length=3:=by have:=hy.hm;omega
   obtain ⟨t0,t1,t2,rfl⟩:=len3 hl
   obtain rfl:m=3:=by have:=hy.hm;simpa using this
   obtain ⟨b,o,u00,u01,u02,u03,u04,u05,u06,rfl,hr0,hc0⟩:=hy.hkid.kid0
   obtain ⟨u10,u11,u12,u13,u14,u15,u16,hr1,hc1⟩:=hy.hkid.kid1
   obtain ⟨u20,u21,u22,u23,u24,u25,u26,hr2,hc2⟩:=hy.hkid.kid2
   have ok0:sizeR t0<=_/\FitG t0:=hy.ok 0 (by simp)
   have ok1:sizeR t1<=_/\FitG t1:=hy.ok 1 (by simp)
   have ok2:sizeR t2<=_/\FitG t2:=hy.ok 2 (by simp)
   exact val_10b (HY:=hy) (HR0:=hr0) (HC0:=hc0) (OK0:=ok0) (HR1:=hr1) (HC1:=hc1) (OK1:=ok1) (HR2:=hr2) (HC2:=hc2) (OK2:=ok2) (HIV:=HIV) (HIF:=HIF)
 ·by_cases h0:(m:Int)≠1
  ·exact val_11a (h0:=h0) (HY:=hy)
  ·have hl:kids.length=1:=by have:=hy.hm;omega
   obtain ⟨t0,rfl⟩:=len1 hl
   obtain rfl:m=1:=by have:=hy.hm;simpa using this
   obtain ⟨b,o,u00,u01,u02,u03,u04,u05,u06,rfl,hr0,hc0⟩:=hy.hkid.kid0
   have ok0:sizeR t0<=_/\FitG t0:=hy.ok 0 (by simp)
   exact val_11b (HY:=hy) (HR0:=hr0) (HC0:=hc0) (OK0:=ok0) (HIV:=HIV)
 ·by_cases h0:m<=1
  ·exact val_12a (h0:=h0) (HY:=hy)
  ·obtain ⟨ts,t0,rfl⟩:=lenL (l:=kids) (by have:=hy.hm;omega)
   have hm':m=ts.length+1:=by have:=hy.hm;simpa using this
   obtain ⟨b,o,u00,u01,u02,u03,u04,u05,u06,rfl,hr0,hc0⟩:=hy.hkid.kid ts.length (by simp)
   have hr0':TN w t0 [u00,u01,u02,u03,u04,u05,u06]:=by simpa using hr0
   have ok0:sizeR t0<=N/\FitG t0:=by have:=hy.ok ts.length (by simp);simpa using this
   obtain ⟨j,hj⟩:∃ j,j=ts.length:=⟨_,rfl⟩
   rw [<- hj] at hc0 hm'
   subst hm'
   exact val_12b (h0:=by omega) (hj2:=by have:=hy.fm;omega) (hcp:=hy.hcap) (hj:=hj) (HY:=hy) (HR0:=hr0') (HC0:=hc0) (OK0:=ok0) (HIV:=HIV) (HIX:=HIX)
theorem fun_step {N:Nat} (HIF:Hid (Tells 70 (fun t=>gd t 1) (fun t=>sizeR t<=N/\FitG t))) (HIL:Hid (Tells 120 (fun t=>gd t 3) (fun t=>sizeR t<=N/\FitG t))) :
  Tells 70 (fun t=>gd t 1) (fun t=>sizeR t<=N+1/\FitG t):=by
 rintro ⟨k,nums,text,name,c,kids⟩ v0 v1 v2 v3 v4 v5 v6 w ⟨hN,hf⟩ ht
 obtain ⟨at1,A1,n1,c1,A2,n2,c2,A,m,cc,hvs,hy⟩:=ht.node hf hN
 simp only [List.cons.injEq,and_true] at hvs
 obtain ⟨rfl,rfl,rfl,rfl,rfl,rfl,rfl⟩:=hvs
 dsimp only
 by_cases hk:k < 13\/18 < k
 ·exact fun_no (hk:=hk)
 have hk2:k=13\/k=14\/k=15\/k=16\/k=17\/k=18:=by omega
 clear hk
 rcases hk2 with rfl | rfl | rfl | rfl | rfl | rfl
 ·exact fun_13 (HY:=hy)
 ·exact fun_14 (HY:=hy)
 ·by_cases h0:m=0
  ·subst h0
   exact fun_15a (HY:=hy)
  ·exact fun_15b (h0:=by omega) (HY:=hy) (HIL:=HIL)
 ·by_cases h0:(m:Int)≠1
  ·exact fun_16a (h0:=h0) (HY:=hy)
  ·have hl:kids.length=1:=by have:=hy.hm;omega
   obtain ⟨t0,rfl⟩:=len1 hl
   obtain rfl:m=1:=by have:=hy.hm;simpa using this
   obtain ⟨b,o,u00,u01,u02,u03,u04,u05,u06,rfl,hr0,hc0⟩:=hy.hkid.kid0
   have ok0:sizeR t0<=_/\FitG t0:=hy.ok 0 (by simp)
   cases hs:slashB c with
   | true=>exact fun_16b (hs:=hs) (HY:=hy) (HR0:=hr0) (HC0:=hc0) (OK0:=ok0) (HIF:=HIF)
   | false =>
    by_cases h1:c=168
    ·subst h1;exact fun_16c (HY:=hy) (HR0:=hr0) (HC0:=hc0) (OK0:=ok0) (HIF:=HIF)
    ·by_cases h2:c=9064
     ·subst h2;exact fun_16d (HY:=hy) (HR0:=hr0) (HC0:=hc0) (OK0:=ok0) (HIF:=HIF)
     ·exact fun_16e (hs:=hs) (h1:=by simpa using h1) (h2:=by simpa using h2) (HY:=hy)
 ·by_cases h0:(m:Int)≠2
  ·exact fun_17a (h0:=h0) (HY:=hy)
  ·have hl:kids.length=2:=by have:=hy.hm;omega
   obtain ⟨t0,t1,rfl⟩:=len2 hl
   obtain rfl:m=2:=by have:=hy.hm;simpa using this
   obtain ⟨b,o,u00,u01,u02,u03,u04,u05,u06,rfl,hr0,hc0⟩:=hy.hkid.kid0
   obtain ⟨u10,u11,u12,u13,u14,u15,u16,hr1,hc1⟩:=hy.hkid.kid1
   have ok0:sizeR t0<=_/\FitG t0:=hy.ok 0 (by simp)
   have ok1:sizeR t1<=_/\FitG t1:=hy.ok 1 (by simp)
   exact fun_17b (HY:=hy) (HR0:=hr0) (HC0:=hc0) (OK0:=ok0) (HR1:=hr1) (HC1:=hc1) (OK1:=ok1) (HIF:=HIF)
 ·by_cases h0:(m:Int)≠1
  ·exact fun_18a (h0:=h0) (HY:=hy)
  ·have hl:kids.length=1:=by have:=hy.hm;omega
   obtain ⟨t0,rfl⟩:=len1 hl
   obtain rfl:m=1:=by have:=hy.hm;simpa using this
   obtain ⟨b,o,u00,u01,u02,u03,u04,u05,u06,rfl,hr0,hc0⟩:=hy.hkid.kid0
   have ok0:sizeR t0<=_/\FitG t0:=hy.ok 0 (by simp)
   exact fun_18b (HY:=hy) (HR0:=hr0) (HC0:=hc0) (OK0:=ok0) (HIF:=HIF)
theorem idx_step {N:Nat} (HV:Hid (Tells 69 (fun t=>gd t 0) (fun t=>sizeR t<=N+1/\FitG t))) :
  Tells 117 (fun t=>gd t 2) (fun t=>sizeR t<=N+1/\FitG t):=by
 rintro ⟨k,nums,text,name,c,kids⟩ v0 v1 v2 v3 v4 v5 v6 w ⟨hN,hf⟩ ht
 obtain ⟨at1,A1,n1,c1,A2,n2,c2,A,m,cc,hvs,hy⟩:=ht.node hf hN
 simp only [List.cons.injEq,and_true] at hvs
 obtain ⟨rfl,rfl,rfl,rfl,rfl,rfl,rfl⟩:=hvs
 dsimp only
 by_cases hk:k=21
 ·subst hk
  exact idx_21 (HY:=hy) (HW0:=(fun W hb=>HV.out _ _ _ _ _ _ _ _ W ⟨hN,hf⟩ (TN.below hb _ _ ht)))
 ·exact idx_no (hk:=hk) (HW0:=(fun W hb=>HV.out _ _ _ _ _ _ _ _ W ⟨hN,hf⟩ (TN.below hb _ _ ht)))
theorem bind_step {N:Nat} (HIF:Hid (Tells 70 (fun t=>gd t 1) (fun t=>sizeR t<=N/\FitG t))) :
  Tells 72 (fun t=>gd t 4) (fun t=>sizeR t<=N+1/\FitG t):=by
 rintro ⟨k,nums,text,name,c,kids⟩ v0 v1 v2 v3 v4 v5 v6 w ⟨hN,hf⟩ ht
 obtain ⟨at1,A1,n1,c1,A2,n2,c2,A,m,cc,hvs,hy⟩:=ht.node hf hN
 simp only [List.cons.injEq,and_true] at hvs
 obtain ⟨rfl,rfl,rfl,rfl,rfl,rfl,rfl⟩:=hvs
 dsimp only
 by_cases h0:(m:Int)≠1
 ·exact bind_a (h0:=h0) (HY:=hy)
 ·have hl:kids.length=1:=by have:=hy.hm;omega
  obtain ⟨t0,rfl⟩:=len1 hl
  obtain rfl:m=1:=by have:=hy.hm;simpa using this
  obtain ⟨b,o,u00,u01,u02,u03,u04,u05,u06,rfl,hr0,hc0⟩:=hy.hkid.kid0
  have ok0:sizeR t0<=_/\FitG t0:=hy.ok 0 (by simp)
  exact bind_b (HY:=hy) (HR0:=hr0) (HC0:=hc0) (OK0:=ok0) (HIF:=HIF)
theorem line_step {N:Nat} (HIV:Hid (Tells 69 (fun t=>gd t 0) (fun t=>sizeR t<=N/\FitG t))) (HV:Hid (Tells 69 (fun t=>gd t 0) (fun t=>sizeR t<=N+1/\FitG t))) (HB:Hid (Tells 72 (fun t=>gd t 4) (fun t=>sizeR t<=N+1/\FitG t))) :
  Tells 120 (fun t=>gd t 3) (fun t=>sizeR t<=N+1/\FitG t):=by
 rintro ⟨k,nums,text,name,c,kids⟩ v0 v1 v2 v3 v4 v5 v6 w ⟨hN,hf⟩ ht
 obtain ⟨at1,A1,n1,c1,A2,n2,c2,A,m,cc,hvs,hy⟩:=ht.node hf hN
 simp only [List.cons.injEq,and_true] at hvs
 obtain ⟨rfl,rfl,rfl,rfl,rfl,rfl,rfl⟩:=hvs
 dsimp only
 by_cases hk:k=19
 ·subst hk
  by_cases h0:(m:Int)≠2
  ·exact line_19a (h0:=h0) (HY:=hy)
  ·have hl:kids.length=2:=by have:=hy.hm;omega
   obtain ⟨t0,t1,rfl⟩:=len2 hl
   obtain rfl:m=2:=by have:=hy.hm;simpa using this
   obtain ⟨b,o,u00,u01,u02,u03,u04,u05,u06,rfl,hr0,hc0⟩:=hy.hkid.kid0
   obtain ⟨u10,u11,u12,u13,u14,u15,u16,hr1,hc1⟩:=hy.hkid.kid1
   have ok0:sizeR t0<=_/\FitG t0:=hy.ok 0 (by simp)
   have ok1:sizeR t1<=_/\FitG t1:=hy.ok 1 (by simp)
   exact line_19b (HY:=hy) (HR0:=hr0) (HC0:=hc0) (OK0:=ok0) (HR1:=hr1) (HC1:=hc1) (OK1:=ok1) (HIV:=HIV)
 ·by_cases hk2:k=20
  ·subst hk2
   exact line_20 (HW4:=(fun W hb=>HB.out _ _ _ _ _ _ _ _ W ⟨hN,hf⟩ (TN.below hb _ _ ht))) (HW0:=(fun W hb=>HV.out _ _ _ _ _ _ _ _ W ⟨hN,hf⟩ (TN.below hb _ _ ht)))
  ·exact line_no (hk:=hk) (hk2:=hk2) (HW0:=(fun W hb=>HV.out _ _ _ _ _ _ _ _ W ⟨hN,hf⟩ (TN.below hb _ _ ht)))
theorem Tells.none (f:FuncId) (s:Nat):Tells f (fun t=>gd t s) (fun t=>sizeR t<=0/\FitG t):=by
 intro t v0 v1 v2 v3 v4 v5 v6 w h
 have:=sizeR_pos t
 omega
theorem all_good:∀ N:Nat,(Tells 69 (fun t=>gd t 0) (fun t=>sizeR t<=N/\FitG t))/\(Tells 70 (fun t=>gd t 1) (fun t=>sizeR t<=N/\FitG t))/\(Tells 117 (fun t=>gd t 2) (fun t=>sizeR t<=N/\FitG t))/\(Tells 120 (fun t=>gd t 3) (fun t=>sizeR t<=N/\FitG t))/\(Tells 72 (fun t=>gd t 4) (fun t=>sizeR t<=N/\FitG t))
 | 0=>⟨Tells.none _ _,Tells.none _ _,Tells.none _ _,Tells.none _ _,Tells.none _ _⟩
 | N+1=>by
  obtain ⟨hv,hf,hx,hl,_⟩:=all_good N
  have hv1:=val_step hv hf hx
  have hb1:=bind_step hf
  exact ⟨hv1,fun_step hf hl,idx_step hv1,line_step hv hv1 hb1,hb1⟩
theorem BoxT.bl {w W:World}{vs:List Value} (h:BoxT w W vs):Below w.heap.size w W:=h.2.1
def dpB:Nat->RTree->Bool
 | 0,_=>false
 | d+1,.mk _ _ _ _ _ kids=>kids.all fun t=>dpB d t
theorem depth_walk:∀ (d:Nat) (t:RTree) (v0 v1 v2 v3 v4 v5 v6:Value) (w:World) (z:Int),z=(d:Int)->d<=100->FitG t->TN w t [v0,v1,v2,v3,v4,v5,v6] ->
  Calls Tryz.prog 71 #[.agg #[v0,v1,v2,v3,v4,v5,v6],.int .i64 z] w fun e w'=>e= .returned (.bool (dpB d t))/\Below w.heap.size w w'
 | 0,t,v0,v1,v2,v3,v4,v5,v6,w,z,hz,_,_,_=>by
  have hz0:¬ 0 < z:=by omega
  have hz1:-1 < z:=by omega
  clear hz
  have HB:Hid (Below w.heap.size w ((w.alloc (.cells #[v0,v1,v2,v3,v4,v5,v6] 31)).alloc (.cells #[.int .i64 z] 3))):=((Below.refl _ w).alloc (Nat.le_refl _) _).alloc (by simp) _
  have HR:Hid (dpB 0 t=false):=by unfold Hid;rw [dpB]
  generalize dpB 0 t=R at *
  go_enter Tryz.func71,Tryz.ntmps71
  go_wp2
  go_ret
  exact ⟨by rw [HR.out];rfl,HB.out⟩
 | d+1,.mk k nums text name c kids,v0,v1,v2,v3,v4,v5,v6,w,z,hz,hd,hf,ht=>by
  obtain ⟨at1,A1,n1,c1,A2,n2,c2,A,m,cc,rfl,rfl,rfl,rfl,rfl,rfl,rfl,hm,-,hk⟩:=ht.form
  rw [FitG] at hf
  obtain ⟨R,hR⟩:∃ R:Bool,R=kids.any fun t => !dpB d t:=⟨_,rfl⟩
  have HR:Hid (dpB (d+1) (.mk k nums text name c kids) = !R):=by unfold Hid;rw [hR,any_not,dpB]
  have hb0:Below w.heap.size w ((w.alloc (.cells #[.int .i64 k,.int .i64 at1,.slice A1 n1 c1,.slice A2 n2 c2,.string name,.int .i32 c,.slice A m cc] 31)).alloc (.cells #[.int .i64 z] 3)):=((Below.refl _ w).alloc (Nat.le_refl _) _).alloc (by simp) _
  have hz0:0 < z:=by omega
  have hz1:z<=101:=by omega
  have hcl:∀ i (hi:i < kids.length) v0 v1 v2 v3 v4 v5 v6 w1,Below ((w.alloc (.cells #[.int .i64 k,.int .i64 at1,.slice A1 n1 c1,.slice A2 n2 c2,.string name,.int .i32 c,.slice A m cc] 31)).alloc (.cells #[.int .i64 z] 3)).heap.size ((w.alloc (.cells #[.int .i64 k,.int .i64 at1,.slice A1 n1 c1,.slice A2 n2 c2,.string name,.int .i32 c,.slice A m cc] 31)).alloc (.cells #[.int .i64 z] 3)) w1->TN w1 kids[i] [v0,v1,v2,v3,v4,v5,v6] ->
    Calls Tryz.prog 122 #[.agg #[v0,v1,v2,v3,v4,v5,v6],.pointer (some ⟨w.heap.size+1,0,none⟩)] w1 fun e w'=>e= .returned (.bool (!dpB d kids[i]))/\Below w1.heap.size w1 w':=by
   intro i hi v0 v1 v2 v3 v4 v5 v6 w1 hb htk
   have hq:w1.cell? ⟨w.heap.size+1,0,none⟩=some (.int .i64 z):=by rw [hb.cell (by simp),World.cell?_alloc_at _ _ _ _ (by simp)];rfl
   have hb1:Below w1.heap.size w1 (w1.alloc (.cells #[v0,v1,v2,v3,v4,v5,v6] 31)):=(Below.refl _ w1).alloc (Nat.le_refl _) _
   have hq2:(w1.alloc (.cells #[v0,v1,v2,v3,v4,v5,v6] 31)).cell? ⟨w.heap.size+1,0,none⟩=some (.int .i64 z):=by rw [hb1.cell (cell_lt hq)];exact hq
   have HC:=Lib.hid (depth_walk d kids[i] v0 v1 v2 v3 v4 v5 v6 _ (z - 1) (by omega) (by omega) (FitGs_at hf.2.2.2.2.2 hi) (TN.below hb1 _ _ htk))
   have HB1:=Lib.hid hb1
   clear hq hb1 hb htk hf hz HR hR hk hm ht hb0 hd
   generalize dpB d kids[i]=b at *
   go_enter Tryz.func122,Tryz.ntmps122
   go_wp2_with fail
   (with_reducible refine HC.out.mono ?_)
   rintro e w2 ⟨rfl,hb⟩
   have HB2:=Lib.hid (HB1.out.trans (hb.mono HB1.out.size))
   clear hb hq2
   go_wp2
   go_ret
   exact ⟨rfl,HB2.out⟩
  have HCC:=Lib.hid (nContains_walk kids A m cc _ ⟨w.heap.size+1,0,none⟩ 122 (fun t => !dpB d t) _ Tryz.func122 (by kernel_rfl) _ rfl hm (by omega) (hk.below hb0) hcl)
  rw [<- hR] at HCC
  have HB0:=Lib.hid hb0
  generalize dpB (d+1) (.mk k nums text name c kids)=R2 at *
  clear hcl hb0 hk hm hf ht hd hR hz
  go_enter Tryz.func71,Tryz.ntmps71
  go_wp2_with fail
  (with_reducible refine HCC.out.mono ?_)
  rintro e w2 ⟨rfl,hb⟩
  have HB2:=Lib.hid (HB0.out.trans (hb.mono HB0.out.size))
  clear hb
  go_wp2
  go_ret
  exact ⟨by rw [HR.out];rfl,HB2.out⟩
theorem tCount_walk:∀ (N:Nat) (t:RTree) (v0 v1 v2 v3 v4 v5 v6:Value) (w:World),sizeR t<=N->sizeR t<=1048576->TN w t [v0,v1,v2,v3,v4,v5,v6] ->
  Calls Tryz.prog 33 #[.agg #[v0,v1,v2,v3,v4,v5,v6]] w fun e w'=>e= .returned (.int .i64 (sizeR t:Int))/\Below w.heap.size w w'
 | 0,t,_,_,_,_,_,_,_,_,h,_,_=>by have:=sizeR_pos t;omega
 | N+1,.mk k nums text name c kids,v0,v1,v2,v3,v4,v5,v6,w,hN,hM,ht=>by
  obtain ⟨at1,A1,n1,c1,A2,n2,c2,A,m,cc,rfl,rfl,rfl,rfl,rfl,rfl,rfl,hm,-,hk⟩:=ht.form
  rw [sizeR] at hN hM ⊢
  have hlen:=sizeRs_len kids
  have hm2:m<=1048576:=by omega
  have HK:=Lib.hid hk
  have HM:=Lib.hid hm
  have HIH:Hid (∀ t v0 v1 v2 v3 v4 v5 v6 w,sizeR t<=N->sizeR t<=1048576->TN w t [v0,v1,v2,v3,v4,v5,v6]->Calls Tryz.prog 33 #[.agg #[v0,v1,v2,v3,v4,v5,v6]] w fun e w'=>e= .returned (.int .i64 (sizeR t:Int))/\Below w.heap.size w w'):=tCount_walk N
  have HTK:Hid (∀ i (hi:i < kids.length),sizeRs (kids.take (i+1))=sizeRs (kids.take i)+sizeR kids[i]):=fun i hi=>sizeRs_take kids i hi
  have HLE:Hid (∀ i,sizeRs (kids.take i)<=sizeRs kids):=fun i=>sizeRs_le kids i
  have HAT:Hid (∀ i (hi:i < kids.length),sizeR kids[i]<=sizeRs kids):=fun i hi=>sizeRs_at hi
  have HN2:Hid (1+sizeRs kids<=N+1/\1+sizeRs kids<=1048576):=by unfold Hid;omega
  have HTL:Hid (sizeRs (kids.take m)=sizeRs kids):=by unfold Hid;rw [hm,List.take_length]
  have HX0:=Lib.hid (boxedT w [.int .i64 k,.int .i64 at1,.slice A1 n1 c1,.slice A2 n2 c2,.string name,.int .i32 c,.slice A m cc] 31)
  clear hk hm hlen hN hM ht
  go_enter Tryz.func33,Tryz.ntmps33
  go_wp2
  generalize w.alloc (.cells #[.int .i64 k,.int .i64 at1,.slice A1 n1 c1,.slice A2 n2 c2,.string name,.int .i32 c,.slice A m cc] 31)=W at *
  go_loopw [3,5,9] (fun cv _ iv wr=>∃ (i n:Nat),i<=m/\iv= .int .i64 (i:Int)/\cv= .int .i64 (n:Int)/\n<=1048576/\Hid (n=1+sizeRs (kids.take i))/\Below w.heap.size w wr) (fun _ _ iv _=>m - (intOf iv).toNat)
  case atStart=>exact ⟨0,1,Nat.zero_le _,rfl,rfl,by omega,by simp [Hid,sizeRs],HX0.out.2.1⟩
  case round =>
   obtain ⟨i,n,hi,rfl,rfl,h1,hn,hbl⟩:=hrel
   have HBL:=Lib.hid hbl
   by_cases him:i < m
   ·have hik:i < kids.length:=by have:=HM.out;omega
    obtain ⟨b,o,u0,u1,u2,u3,u4,u5,u6,rfl,hr,hce⟩:=HK.out i hik
    obtain ⟨k',a',c',nm',B1,B2,B3,p1,q1,p2,q2,p3,q3,rfl,rfl,rfl,rfl,rfl,rfl,rfl⟩:=hr.shape
    obtain ⟨c0,c1,c2,c3,c4,c5,c6⟩:=hce wr hbl
    have hba:=(Below.refl _ wr).alloc (Nat.le_refl _) (.cells #[.int .i64 k',.int .i64 a',.slice B1 p1 q1,.slice B2 p2 q2,.string nm',.int .i32 c',.slice B3 p3 q3] 31)
    have HIC:=Lib.hid (HIH.out kids[i] _ _ _ _ _ _ _ _ (by have:=HAT.out i hik;have:=HN2.out;omega) (by have:=HAT.out i hik;have:=HN2.out;omega) (TN.below (hbl.trans (hba.mono hbl.size)) _ _ hr))
    have HBA:=Lib.hid (hbl.trans (hba.mono hbl.size))
    have HTN:=Lib.hid (HTK.out i hik)
    have hns:n+sizeR kids[i]<=1048576:=by have:=HTN.out;have:=HLE.out (i+1);have:=HN2.out;have:=hn.out;omega
    have HN3:Hid (n+sizeR kids[i]=1+sizeRs (kids.take (i+1))):=by unfold Hid;have:=HTN.out;have:=hn.out;omega
    clear hr hce hbl hn hba
    generalize sizeR kids[i]=z at *
    go_wp2_with fail
    (with_reducible refine HIC.out.mono ?_)
    rintro e w2 ⟨rfl,hb⟩
    have HB2:=Lib.hid (HBA.out.trans (hb.mono HBA.out.size))
    clear hb c0 c1 c2 c3 c4 c5 c6
    go_wp2
    go_roundw
    case rel=>exact ⟨i+1,n+z,by omega,by go_num,by go_num,hns,HN3.out,HB2.out⟩
    case measure=>simp [intOf];omega
   ·have hF:n=1+sizeRs kids:=by
                      have:=HTL.out;have:=hn.out;obtain rfl:i=m:=by omega
                      omega
    have HF:=Lib.hid hF
    clear hn hF hbl
    go_wp2
    go_ret
    exact ⟨by rw [<- HF.out];rfl,HBL.out⟩
theorem good31_walk (t:RTree) (v0 v1 v2 v3 v4 v5 v6:Value) (w:World) (hf:FitG t) (ht:TN w t [v0,v1,v2,v3,v4,v5,v6]) :
  Calls Tryz.prog 32 #[.agg #[v0,v1,v2,v3,v4,v5,v6]] w fun e w'=>e= .returned (.bool ((gd t 0||gd t 1)&&dpB 40 t))/\Below w.heap.size w w':=by
 obtain ⟨hv,hfn,_⟩:=all_good (sizeR t)
 have hX:=boxedT w [v0,v1,v2,v3,v4,v5,v6] 31
 have HV:Hid (∀ W,Below w.heap.size w W->Calls Tryz.prog 69 #[.agg #[v0,v1,v2,v3,v4,v5,v6]] W fun e w'=>e= .returned (.bool (gd t 0))/\Below W.heap.size W w'):=fun W hb=>hv t _ _ _ _ _ _ _ W ⟨Nat.le_refl _,hf⟩ (TN.below hb _ _ ht)
 have HFN:Hid (∀ W,Below w.heap.size w W->Calls Tryz.prog 70 #[.agg #[v0,v1,v2,v3,v4,v5,v6]] W fun e w'=>e= .returned (.bool (gd t 1))/\Below W.heap.size W w'):=fun W hb=>hfn t _ _ _ _ _ _ _ W ⟨Nat.le_refl _,hf⟩ (TN.below hb _ _ ht)
 have HD:Hid (∀ W,Below w.heap.size w W->Calls Tryz.prog 71 #[.agg #[v0,v1,v2,v3,v4,v5,v6],.int .i64 40] W fun e w'=>e= .returned (.bool (dpB 40 t))/\Below W.heap.size W w'):=fun W hb=>depth_walk 40 t _ _ _ _ _ _ _ W 40 rfl (by omega) hf (TN.below hb _ _ ht)
 obtain ⟨at1,A1,n1,c1,A2,n2,c2,A,m,cc,k,name,c,rfl,rfl,rfl,rfl,rfl,rfl,rfl⟩:∃ at1 A1 n1 c1 A2 n2 c2 A m cc k name c,v0= .int .i64 k/\v1= .int .i64 at1/\v2= .slice A1 n1 c1/\v3= .slice A2 n2 c2/\v4= .string name/\v5= .int .i32 c/\v6= .slice A m cc:=by
  obtain ⟨k,a,c,name,A1,A2,A3,n1,c1,n2,c2,n3,c3,h0,h1,h2,h3,h4,h5,h6⟩:=ht.shape
  exact ⟨a,A1,n1,c1,A2,n2,c2,A3,n3,c3,k,name,c,h0,h1,h2,h3,h4,h5,h6⟩
 have X0:=Lib.hid hX
 clear hv hfn hX hf ht
 generalize gd t 0=b1 at *
 generalize gd t 1=b2 at *
 generalize dpB 40 t=b3 at *
 go_enter Tryz.func32,Tryz.ntmps32
 go_wp2_with fail
 generalize w.alloc (.cells #[.int .i64 k,.int .i64 at1,.slice A1 n1 c1,.slice A2 n2 c2,.string name,.int .i32 c,.slice A m cc] 31)=W at *
 (with_reducible refine (HV.out _ X0.out.bl).mono ?_)
 rintro e w1 ⟨rfl,hb⟩
 have X1:=Lib.hid (X0.out.step hb)
 clear hb
 obtain ⟨x0,x1,x2,x3,x4,x5,x6⟩:=X1.out.c7
 cases b1
 case true =>
  go_wp2_with fail
  (with_reducible refine (HD.out _ X1.out.bl).mono ?_)
  rintro e w2 ⟨rfl,hb⟩
  have X2:=Lib.hid (X1.out.step hb)
  clear hb x0 x1 x2 x3 x4 x5 x6
  go_wp2
  go_ret
  exact ⟨by cases b3 <;> rfl,X2.out.bl⟩
 go_wp2_with fail
 (with_reducible refine (HFN.out _ X1.out.bl).mono ?_)
 rintro e w2 ⟨rfl,hb⟩
 have X2:=Lib.hid (X1.out.step hb)
 clear hb x0 x1 x2 x3 x4 x5 x6
 obtain ⟨x0,x1,x2,x3,x4,x5,x6⟩:=X2.out.c7
 cases b2
 case false =>
  go_wp2
  go_ret
  exact ⟨rfl,X2.out.bl⟩
 go_wp2_with fail
 (with_reducible refine (HD.out _ X2.out.bl).mono ?_)
 rintro e w3 ⟨rfl,hb⟩
 have X3:=Lib.hid (X2.out.step hb)
 clear hb x0 x1 x2 x3 x4 x5 x6
 go_wp2
 go_ret
 exact ⟨by cases b3 <;> rfl,X3.out.bl⟩
end Go.Proofs.YtbakjaliponbbaaGreatDoor
