/- The reference's GoodValue, GoodFun, GoodBind and kids tell which trees are good. The walk of the law IdiomMatches. Printed by gen_trmn.py. Trees that came in: .. Conditions: as each theorem says. -/
import Derived.Test.YtbakjaliponbbaaGreatDoorMg36
import Derived.Test.YtbakjaliponbbaaGreatDoorMg37
import Derived.Test.YtbakjaliponbbaaGreatDoorMg34
import Derived.Test.YtbakjaliponbbaaGreatDoorRows
import Derived.Test.YtbakjaliponbbaaGreatDoorMg04
import Derived.StillTailTactics
import Derived.ProofKit
import Derived.Deep.Slices
import Derived.Deep.Fields
import Derived.ChangeSame
set_option maxRecDepth 100000
set_option maxHeartbeats 4000000
namespace Go.Proofs.YtbakjaliponbbaaGreatDoor
open Go Go.RowKit Go.Proofs Fl
theorem lenLg {l:List RTree} (h:0 < l.length):∃ ts t,l=ts++[t]:=by
 induction l with
 | nil=>simp at h
 | cons x l ih =>
  cases l with
  | nil=>exact ⟨[],x,rfl⟩
  | cons y l =>
   obtain ⟨ts,t,e⟩:=ih (by simp)
   exact ⟨x::ts,t,by rw [e];rfl⟩
theorem lenHg {l:List RTree} (h:0 < l.length):∃ t ts,l=t::ts:=by
 cases l with
 | nil=>simp at h
 | cons t ts=>exact ⟨t,ts,rfl⟩
theorem rval_step {N:Nat} (HK:Hid (KTell N)):NTell 24 (fun t=>gd t 0) (N+1):=by
 rintro ⟨k,nums,text,name,c,kids⟩ v0 v1 v2 v3 v4 v5 w hN hf ht
 obtain ⟨A1,n1,c1,A2,n2,c2,A,m,cc,rfl,rfl,rfl,rfl,rfl,rfl,hy⟩:=ht.node hf hN
 dsimp only
 by_cases hk:k < 1\/12 < k
 ·exact rval_no (hk:=hk) (HY:=hy)
 have hk2:k=1\/k=2\/k=3\/k=4\/k=5\/k=6\/k=7\/k=8\/k=9\/k=10\/k=11\/k=12:=by omega
 clear hk
 rcases hk2 with rfl | rfl | rfl | rfl | rfl | rfl | rfl | rfl | rfl | rfl | rfl | rfl
 ·exact rval_1 (HY:=hy)
 ·by_cases h0:m=0
  ·subst h0;exact rval_2b (HY:=hy)
  ·exact rval_2a (h0:=by omega) (HY:=hy)
 ·by_cases h0:m=0
  ·subst h0;exact rval_3b (HY:=hy)
  ·exact rval_3a (h0:=by omega) (HY:=hy)
 ·by_cases h0:m=0
  ·subst h0;exact rval_4b (HY:=hy)
  ·exact rval_4a (h0:=by omega) (HY:=hy)
 ·by_cases h0:m=0
  ·subst h0;exact rval_5b (HY:=hy)
  ·exact rval_5a (h0:=by omega) (HY:=hy)
 ·by_cases h0:m=0
  ·subst h0;exact rval_6b (HY:=hy)
  ·exact rval_6a (h0:=by omega) (HY:=hy)
 ·by_cases h0:m<=1
  ·exact rval_7a (h0:=h0) (HY:=hy)
  ·exact rval_7b (h0:=by omega) (HY:=hy) (HK:=HK)
 ·by_cases h0:m<=1
  ·exact rval_8a (h0:=h0) (HY:=hy)
  ·obtain ⟨b,o,rfl⟩:=hy.hkid.some (by have:=hy.hm;omega)
   obtain ⟨t,ts,rfl⟩:=lenHg (l:=kids) (by have:=hy.hm;omega)
   exact rval_8b (h0:=by omega) (HY:=hy) (HK:=HK)
 ·by_cases h0:m=2
  ·subst h0
   obtain ⟨b,o,rfl⟩:=hy.hkid.some (by have:=hy.hm;omega)
   obtain ⟨t,ts,rfl⟩:=lenHg (l:=kids) (by have:=hy.hm;omega)
   exact rval_9b (HY:=hy) (HK:=HK)
  ·exact rval_9a (h0:=by omega) (HY:=hy)
 ·by_cases h0:m=3
  ·subst h0
   obtain ⟨b,o,rfl⟩:=hy.hkid.some (by have:=hy.hm;omega)
   obtain ⟨t,ts,rfl⟩:=lenHg (l:=kids) (by have:=hy.hm;omega)
   exact rval_10b (HY:=hy) (HK:=HK)
  ·exact rval_10a (h0:=by omega) (HY:=hy)
 ·by_cases h0:(m:Int)=1
  ·exact rval_11b (h0:=h0) (HY:=hy) (HK:=HK)
  ·exact rval_11a (h0:=h0) (HY:=hy)
 ·by_cases h0:m<=1
  ·exact rval_12a (h0:=h0) (HY:=hy)
  ·obtain ⟨b,o,rfl⟩:=hy.hkid.some (by have:=hy.hm;omega)
   obtain ⟨ts,t0,rfl⟩:=lenLg (l:=kids) (by have:=hy.hm;omega)
   have hm':m=ts.length+1:=by have:=hy.hm;simpa using this
   obtain ⟨j,hj⟩:∃ j,j=ts.length:=⟨_,rfl⟩
   rw [<- hj] at hm'
   subst hm'
   exact rval_12b (h0:=by omega) (hj2:=by have:=hy.fm;omega) (hj:=hj) (HY:=hy) (HK:=HK)
theorem rfun_step {N:Nat} (HK:Hid (KTell N)):NTell 105 (fun t=>gd t 1) (N+1):=by
 rintro ⟨k,nums,text,name,c,kids⟩ v0 v1 v2 v3 v4 v5 w hN hf ht
 obtain ⟨A1,n1,c1,A2,n2,c2,A,m,cc,rfl,rfl,rfl,rfl,rfl,rfl,hy⟩:=ht.node hf hN
 dsimp only
 by_cases hk:k < 13\/18 < k
 ·exact rfun_no (hk:=hk) (HY:=hy)
 have hk2:k=13\/k=14\/k=15\/k=16\/k=17\/k=18:=by omega
 clear hk
 rcases hk2 with rfl | rfl | rfl | rfl | rfl | rfl
 ·by_cases h0:m=0
  ·subst h0
   cases hv:verbB c with
   | true=>exact rfun_13b (hv:=hv) (HY:=hy)
   | false=>exact rfun_13c (hv:=hv) (HY:=hy)
  ·exact rfun_13a (h0:=by omega) (HY:=hy)
 ·by_cases h0:m=0
  ·subst h0;exact rfun_14b (HY:=hy)
  ·exact rfun_14a (h0:=by omega) (HY:=hy)
 ·by_cases h0:m=0
  ·subst h0;exact rfun_15a (HY:=hy)
  ·exact rfun_15b (h0:=by omega) (HY:=hy) (HK:=HK)
 ·by_cases h0:m=1
  ·subst h0
   cases hs:slashB c with
   | true=>exact rfun_16b (hs:=hs) (HY:=hy) (HK:=HK)
   | false =>
    by_cases h1:c=168
    ·subst h1;exact rfun_16c (HY:=hy) (HK:=HK)
    ·by_cases h2:c=9064
     ·subst h2;exact rfun_16d (HY:=hy) (HK:=HK)
     ·exact rfun_16e (hs:=hs) (h1:=by simpa using h1) (h2:=by simpa using h2) (HY:=hy)
  ·exact rfun_16a (h0:=by omega) (HY:=hy)
 ·by_cases h0:(m:Int)=2
  ·exact rfun_17b (h0:=h0) (HY:=hy) (HK:=HK)
  ·exact rfun_17a (h0:=h0) (HY:=hy)
 ·by_cases h0:(m:Int)=1
  ·exact rfun_18b (h0:=h0) (HY:=hy) (HK:=HK)
  ·exact rfun_18a (h0:=h0) (HY:=hy)
theorem rbind_step {N:Nat} (HK:Hid (KTell N)):NTell 35 (fun t=>decide (kindR t=20)&&gd t 4) (N+1):=by
 rintro ⟨k,nums,text,name,c,kids⟩ v0 v1 v2 v3 v4 v5 w hN hf ht
 obtain ⟨A1,n1,c1,A2,n2,c2,A,m,cc,rfl,rfl,rfl,rfl,rfl,rfl,hy⟩:=ht.node hf hN
 dsimp only
 by_cases hk:k=20
 ·subst hk
  rw [decide_eq_true (show kindR (.mk 20 nums text name c kids)=20 from rfl),Bool.true_and]
  by_cases h0:m=1
  ·subst h0;exact rbind_b (HY:=hy) (HK:=HK)
  ·exact rbind_a (h0:=by omega) (HY:=hy)
 ·rw [decide_eq_false (show ¬ kindR (.mk k nums text name c kids)=20 from hk),Bool.false_and]
  exact rbind_no hk _ _ _ _ _ w
theorem kTell_step {N:Nat} (hv:NTell 24 (fun t=>gd t 0) N) (hf:NTell 105 (fun t=>gd t 1) N) (hb:NTell 35 (fun t=>decide (kindR t=20)&&gd t 4) N) (hk:∀ M,M+1<=N->KTell M):KTell N:=by
 intro s sn l A m cc W hs hsn hm hm2 hkd hok
 subst hs
 have h:sn=0\/sn=1\/sn=2\/sn=3:=by omega
 rcases h with rfl | rfl | rfl | rfl
 ·exact rkids_0 hv l A m cc W hm hm2 hkd hok
 ·exact rkids_1 hf l A m cc W hm hm2 hkd hok
 ·exact rkids_2 hv l A m cc W hm hm2 hkd hok
 ·exact rkids_3 hv hb hk l A m cc W hm hm2 hkd hok
theorem nTell_zero (f:FuncId) (p:RTree->Bool):NTell f p 0:=by
 intro t _ _ _ _ _ _ _ h
 have:=sizeR_pos t
 omega
theorem rall_good:∀ N:Nat,(NTell 24 (fun t=>gd t 0) N/\NTell 105 (fun t=>gd t 1) N/\NTell 35 (fun t=>decide (kindR t=20)&&gd t 4) N)/\∀ M,M<=N->KTell M
 | 0=>⟨⟨nTell_zero _ _,nTell_zero _ _,nTell_zero _ _⟩,fun M hM=>by
  obtain rfl:M=0:=by omega
  exact kTell_step (nTell_zero _ _) (nTell_zero _ _) (nTell_zero _ _) fun M h=>by omega⟩
 | N+1=>by
  obtain ⟨_,hk⟩:=rall_good N
  have hK:=hk N (Nat.le_refl _)
  have hv:=rval_step hK
  have hf:=rfun_step hK
  have hb:=rbind_step hK
  refine ⟨⟨hv,hf,hb⟩,fun M hM=>?_⟩
  by_cases h:M<=N
  ·exact hk M h
  ·obtain rfl:M=N+1:=by omega
   exact kTell_step hv hf hb fun M h=>hk M (by omega)
theorem BoxT.c3 {w W:World}{v0 v1 v2:Value} (h:BoxT w W [v0,v1,v2]):W.cell? ⟨w.heap.size,0,none⟩=some v0/\W.cell? ⟨w.heap.size,1,none⟩=some v1/\W.cell? ⟨w.heap.size,2,none⟩=some v2:=⟨h.1 0,h.1 1,h.1 2⟩
theorem matches_walk (t:RTree) (v0 v1 v2 v3 v4 v5:Value) (c:Int) (w:World) (hM:sizeR t<=1048576) (hf:FitG t) (hr:RN w t [v0,v1,v2,v3,v4,v5]) :
  Calls Tryz.prog 5 #[.agg #[v0,v1,v2,v3,v4,v5],.int .i32 c] w fun e w'=>e= .returned (.bool true)/\Below w.heap.size w w':=by
 have HB0:=Lib.hid (boxedT w [v0,v1,v2,v3,v4,v5] 29)
 have HCT:=Lib.hid (fun W (h:BoxT w W [v0,v1,v2,v3,v4,v5])=>count_R 200 (sizeR t) t v0 v1 v2 v3 v4 v5 W (Nat.le_refl _) hM (hr.below h.2.1))
 have HGV:=Lib.hid (fun W (h:BoxT w W [v0,v1,v2,v3,v4,v5])=>(rall_good (sizeR t)).1.1 t v0 v1 v2 v3 v4 v5 W (Nat.le_refl _) hf (hr.below h.2.1))
 have HDP:=Lib.hid (fun W (h:BoxT w W [v0,v1,v2,v3,v4,v5])=>Deep_R t v0 v1 v2 v3 v4 v5 W hM (hr.below h.2.1))
 have HOF:=Lib.hid (fun W (h:BoxT w W [v0,v1,v2,v3,v4,v5])=>of34_walk w (sizeR t) t v0 v1 v2 v3 v4 v5 W (Nat.le_refl _) hM hr h.2.1)
 have HRM:=Lib.hid (fun (hs:Shp3 t) W (h:BoxT w W [v0,v1,v2,v3,v4,v5])=>rmatch_walk hr hs W h.2.1)
 have HIM:Hid (∀ (hs:Shp3 t) (u0 u1 u2 u3 u4 u5 u6:Value) W,TN W t [u0,u1,u2,u3,u4,u5,u6]->Calls Tryz.prog 28 #[.agg #[u0,u1,u2,u3,u4,u5,u6]] W (PhR W (mtP t))):=fun hs _ _ _ _ _ _ _ W ht=>imatch_walk ht hs W (Below.refl _ _)
 have HCO:=Lib.hid (code_walk c)
 have HRC:=Lib.hid (rcode_walk c)
 have HSH:=Lib.hid (fun h:gd t 0=true=>shp_of h)
 have HL0:Hid (((w.alloc (.cells #[v0,v1,v2,v3,v4,v5] 29)).heap.size)=w.heap.size+1):=by unfold Hid;simp
 unfold SomeN at HCT
 unfold SomeD at HDP
 unfold OfTells at HOF
 unfold PhR at HRM HIM
 clear hM hf hr
 generalize codeZ c=z at *
 generalize mtP t=r at *
 obtain ⟨⟨ra,rb,rc⟩,ok⟩:=r
 dsimp only at HRM HIM
 go_enter Tryz.func5,Tryz.ntmps5
 obtain ⟨n0,n1,n2,n3,n4,n5⟩:=HB0.out.c6
 go_wp2_with fail
 refine (HCT.out _ HB0.out).mono ?_
 rintro e w1 ⟨⟨n,g1,g2,rfl⟩,hb⟩
 have HB1:=Lib.hid (HB0.out.step hb)
 clear hb
 clear n0 n1 n2 n3 n4 n5
 obtain ⟨n0,n1,n2,n3,n4,n5⟩:=HB1.out.c6
 by_cases hn:150 < n
 ·clear n0 n1 n2 n3 n4 n5
  go_wp2_with fail
  refine (HCO.out _).mono ?_
  rintro e x1 ⟨rfl,hb⟩
  have HE1:=Lib.hid (HB1.out.step hb)
  clear hb
  go_wp2_with fail
  refine (HRC.out _).mono ?_
  rintro e x2 ⟨rfl,hb⟩
  have HE2:=Lib.hid (HE1.out.step hb)
  clear hb
  go_wp2_with fail
  refine (awake34_any _).mono ?_
  rintro e x3 ⟨rfl,hb⟩
  have HE3:=Lib.hid (HE2.out.step hb)
  clear hb
  go_wp2
  go_ret
  exact ⟨rfl,HE3.out.2.1⟩
 ·go_wp2_with fail
  refine (HGV.out _ HB1.out).mono ?_
  rintro e w2 ⟨rfl,hb⟩
  have HB2:=Lib.hid (HB1.out.step hb)
  clear hb
  clear n0 n1 n2 n3 n4 n5
  obtain ⟨n0,n1,n2,n3,n4,n5⟩:=HB2.out.c6
  generalize hgd:gd t 0=g at *
  cases g with
  | false =>
   clear n0 n1 n2 n3 n4 n5
   go_wp2_with fail
   refine (HCO.out _).mono ?_
   rintro e x1 ⟨rfl,hb⟩
   have HE1:=Lib.hid (HB2.out.step hb)
   clear hb
   go_wp2_with fail
   refine (HRC.out _).mono ?_
   rintro e x2 ⟨rfl,hb⟩
   have HE2:=Lib.hid (HE1.out.step hb)
   clear hb
   go_wp2_with fail
   refine (awake34_any _).mono ?_
   rintro e x3 ⟨rfl,hb⟩
   have HE3:=Lib.hid (HE2.out.step hb)
   clear hb
   go_wp2
   go_ret
   exact ⟨rfl,HE3.out.2.1⟩
  | true =>
   have hsh:=HSH.out rfl
   have HSP:=Lib.hid hsh
   clear hsh
   go_wp2_with fail
   refine (HDP.out _ HB2.out).mono ?_
   rintro e w3 ⟨⟨d,g3,g4,rfl⟩,hb⟩
   have HB3:=Lib.hid (HB2.out.step hb)
   clear hb
   clear n0 n1 n2 n3 n4 n5
   obtain ⟨n0,n1,n2,n3,n4,n5⟩:=HB3.out.c6
   by_cases hd:40 < d
   ·clear n0 n1 n2 n3 n4 n5
    go_wp2_with fail
    refine (HCO.out _).mono ?_
    rintro e x1 ⟨rfl,hb⟩
    have HE1:=Lib.hid (HB3.out.step hb)
    clear hb
    go_wp2_with fail
    refine (HRC.out _).mono ?_
    rintro e x2 ⟨rfl,hb⟩
    have HE2:=Lib.hid (HE1.out.step hb)
    clear hb
    go_wp2_with fail
    refine (awake34_any _).mono ?_
    rintro e x3 ⟨rfl,hb⟩
    have HE3:=Lib.hid (HE2.out.step hb)
    clear hb
    go_wp2
    go_ret
    exact ⟨rfl,HE3.out.2.1⟩
   ·go_wp2_with fail
    refine (HOF.out _ HB3.out).mono ?_
    rintro e w4 ⟨⟨k',a',c',nm',A1,A2,A3,m1,d1,m2,d2,m3,d3,rfl,hta⟩,hb⟩
    have HB4:=Lib.hid (HB3.out.step hb)
    have HI:=Lib.hid (HIM.out HSP.out _ _ _ _ _ _ _ w4 (TNF.tn _ _ hta))
    clear n0 n1 n2 n3 n4 n5
    clear hb hta
    go_wp2_with fail
    refine HI.out.mono ?_
    rintro e w5 ⟨rfl,hb⟩
    have HB5:=Lib.hid ((HB4.out.step hb).step (bel1 w5 (.cells #[.int .i64 ra,.int .i32 rb,.int .i32 rc] 63)))
    have HP5:=Lib.hid (boxedT w5 [.int .i64 ra,.int .i32 rb,.int .i32 rc] 63)
    clear hb HI
    obtain ⟨n0,n1,n2,n3,n4,n5⟩:=HB5.out.c6
    go_wp2_with fail
    refine (HRM.out HSP.out _ HB5.out).mono ?_
    rintro e w6 ⟨rfl,hb⟩
    have HP6:=Lib.hid ((HP5.out.step hb).step (bel1 w6 (.cells #[.int .i64 ra,.int .i32 rb,.int .i32 rc] 68)))
    have HQ6:=Lib.hid (boxedT w6 [.int .i64 ra,.int .i32 rb,.int .i32 rc] 68)
    have HB6:=Lib.hid ((HB5.out.step hb).step (bel1 w6 (.cells #[.int .i64 ra,.int .i32 rb,.int .i32 rc] 68)))
    clear hb HP5
    clear n0 n1 n2 n3 n4 n5
    obtain ⟨p0,p1,p2⟩:=HP6.out.c3
    obtain ⟨q0,q1,q2⟩:=HQ6.out.c3
    go_wp2_with fail
    refine (HCO.out _).mono ?_
    rintro e x1 ⟨rfl,hb⟩
    have HE1:=Lib.hid (HB6.out.step hb)
    clear hb
    go_wp2_with fail
    refine (HRC.out _).mono ?_
    rintro e x2 ⟨rfl,hb⟩
    have HE2:=Lib.hid (HE1.out.step hb)
    clear hb
    go_wp2_with fail
    refine (awake34_any _).mono ?_
    rintro e x3 ⟨rfl,hb⟩
    have HE3:=Lib.hid (HE2.out.step hb)
    clear hb
    go_wp2
    go_ret
    exact ⟨rfl,HE3.out.2.1⟩
end Go.Proofs.YtbakjaliponbbaaGreatDoor
namespace Go.Proofs.YtbakjaliponbbaaGreatDoor
open Go Go.RowKit Go.Proofs Go.ChangeShapes Go.WideShapes Go.Deep
theorem one_le {H:Type} (d:DataW H):1<=Rows.uptoBulk d:=by
 cases d with
 | lit l=>cases l <;> simp [Rows.uptoBulk]
 | nil=>simp [Rows.uptoBulk]
 | ptr d=>simp [Rows.uptoBulk]
 | slice elems spare=>simp [Rows.uptoBulk]
 | agg parts=>simp [Rows.uptoBulk]
 | iface t d=>simp [Rows.uptoBulk]
 | map entries=>simp [Rows.uptoBulk]
 | held h=>simp [Rows.uptoBulk]
theorem bulk_len {H:Type} (l:List (DataW H)):l.length<=Rows.uptoBulkAll l:=by
 induction l with
 | nil=>simp [Rows.uptoBulkAll]
 | cons x r ih=>have:=one_le x;simp only [Rows.uptoBulkAll,List.length_cons];omega
theorem part_le {H:Type}{d:DataW H}{l:List (DataW H)} (h:d∈l):Rows.uptoBulk d<=Rows.uptoBulkAll l:=by
 induction l with
 | nil=>cases h
 | cons x r ih =>
  simp only [Rows.uptoBulkAll]
  cases List.mem_cons.1 h with
  | inl e=>subst e;omega
  | inr e=>have:=ih e;omega
theorem trodF {H:Type}{enc:TypeId×Value->H}{W:World}{sp:Nat->Bool}{held:Bool}{base n:Nat}{v:Value}{d:DataW H×List MemPlace}
  (h:DataW.trod enc Tryz.prog W base sp held n 96 [v]=some d):∃ b,v= .float .f64 b/\b < 18446744073709551616:=by
 cases n with
 | zero=>simp [DataW.trod] at h
 | succ n =>
  cases v <;> simp [DataW.trod,Tryz.underlying96] at h
  rename_i k b
  obtain ⟨h1,_⟩:=h
  obtain ⟨rfl,h2⟩:=h1
  exact ⟨b,rfl,by simpa [Lit.wf] using h2⟩
theorem slice_reads {H:Type}{enc:TypeId×Value->H}{W:World}{sp:Nat->Bool}{held:Bool}{base fuel:Nat}{t e:TypeId}{v:Value}{x:DataW H×List MemPlace}{α:Type} (g:α->Value) (z:α) (Q:α->Prop) (ht:Tryz.prog.underlying t=some (.slice e)) (hc:Tryz.prog.cellsOf e=1)
  (hg:∀ {n:Nat} {v:Value} {y:DataW H×List MemPlace},DataW.trod enc Tryz.prog W base sp held n e [v]=some y->∃ b,v=g b/\Q b)
  (h:DataW.trod enc Tryz.prog W base sp held fuel t [v]=some x):∃ l:List α,Reads1 W v (l.map g)/\l.length<=Rows.uptoBulk x.1/\∀ b∈l,Q b:=by
 rcases open_slice1 ht hc h with ⟨hcs,rfl⟩ | ⟨a,n,c',m,k,V,D,Pl,hcs,_,hl,hm,hmm,rfl,hcell⟩
 ·obtain rfl:v= .slice none 0 0:=by simpa using hcs
  exact ⟨[],.inl ⟨none,0,rfl,rfl⟩,by simp,fun b h=>by cases h⟩
 ·obtain rfl:v= .slice (some a) n c':=by simpa using hcs
  have hnm:n<=m:=by rw [hmm];split <;> omega
  by_cases h0:n=0
  ·subst h0;exact ⟨[],.inl ⟨_,_,rfl,rfl⟩,by simp,fun b h=>by cases h⟩
  have hfl:∀ i,∃ b,i < m->V i=g b/\Q b:=fun i=>by
   by_cases hi:i < m
   ·obtain ⟨b,hb⟩:=hg (hcell i hi).2;exact ⟨b,fun _=>hb⟩
   ·exact ⟨z,fun h=>absurd h hi⟩
  obtain ⟨b,hb⟩:=Classical.axiomOfChoice hfl
  obtain ⟨bl,off,spot⟩:=a
  have hspot:spot=none:=by simpa [Addr.add] using World.cell?_spot (hcell 0 (by omega)).1
  subst hspot
  refine ⟨(List.range n).map b,.inr ⟨bl,off,n,c',rfl,by simp,fun i hi=>?_⟩,?_,fun y hy=>?_⟩
  ·have hi':i < n:=by simpa using hi
   have:=(hcell i (by omega)).1
   have e:(⟨bl,off,none⟩:Addr).add i=⟨bl,off+i,none⟩:=by
    unfold Addr.add;split
    ·rename_i h0;subst h0;rfl
    ·rfl
   rw [e] at this
   rw [this,(hb i (by omega)).1]
   simp
  ·have:=bulk_len ((List.range n).map D)
   simp only [Rows.uptoBulk]
   simp at this ⊢
   omega
  ·obtain ⟨i,hi,rfl⟩:=List.mem_map.1 hy
   have:=List.mem_range.1 hi
   exact (hb i (by omega)).2
theorem sizeRs_bulk {H:Type}:∀ (ts:List RTree) (ds:List (DataW H)),ts.length=ds.length->(∀ i (h:i < ts.length) (h2:i < ds.length),sizeR ts[i]<=Rows.uptoBulk ds[i])->sizeRs ts<=Rows.uptoBulkAll ds
 | [],_,_,_=>by simp [sizeRs]
 | _::_,[],h,_=>by simp at h
 | t::ts,d::ds,hl,h=>by
  have h0:=h 0 (by simp) (by simp)
  have:=sizeRs_bulk ts ds (by simpa using hl) (fun i h1 h2=>by have:=h (i+1) (by simpa using h1) (by simpa using h2);simpa using this)
  simp only [sizeRs,Rows.uptoBulkAll]
  simp at h0
  omega
theorem rks_of {w:World}{b:Nat}:∀ (ts:List RTree) (o:Nat),(∀ i (h:i < ts.length),∃ v0 v1 v2 v3 v4 v5,w.cell? ⟨b,o+i*6,none⟩=some v0/\w.cell? ⟨b,o+i*6+1,none⟩=some v1/\w.cell? ⟨b,o+i*6+2,none⟩=some v2/\w.cell? ⟨b,o+i*6+3,none⟩=some v3/\w.cell? ⟨b,o+i*6+4,none⟩=some v4/\w.cell? ⟨b,o+i*6+5,none⟩=some v5/\RN w ts[i] [v0,v1,v2,v3,v4,v5])->RKs w b o ts
 | [],_,_=>by rw [RKs];trivial
 | t::ts,o,h=>by
  rw [RKs]
  refine ⟨?_,rks_of ts (o+6) fun i hi=>?_⟩
  ·have:=h 0 (by simp);simpa using this
  ·have:=h (i+1) (by simpa using hi)
   have e:o+(i+1)*6=o+6+i*6:=by omega
   rw [e] at this
   simpa using this
theorem fitRs_of:∀ (ts:List RTree),(∀ i (h:i < ts.length),FitG ts[i])->FitGs ts
 | [],_=>by rw [FitGs];trivial
 | t::ts,h=>by
  rw [FitGs]
  exact ⟨by have:=h 0 (by simp);simpa using this,fitRs_of ts fun i hi=>by have:=h (i+1) (by simpa using hi);simpa using this⟩
theorem c_int:Tryz.prog.cellsOf 3=1:=by kernel_rfl
theorem c_nums:Tryz.prog.cellsOf 26=1:=by kernel_rfl
theorem c_text:Tryz.prog.cellsOf 27=1:=by kernel_rfl
theorem c_str:Tryz.prog.cellsOf 9=1:=by kernel_rfl
theorem c_i32:Tryz.prog.cellsOf 21=1:=by kernel_rfl
theorem c_kids:Tryz.prog.cellsOf 22=1:=by kernel_rfl
theorem c_f64:Tryz.prog.cellsOf 96=1:=by kernel_rfl
theorem c_node:Tryz.prog.cellsOf 29=6:=by kernel_rfl
theorem node_open {H:Type}{enc:TypeId×Value->H}{W:World}{sp:Nat->Bool}{held:Bool}{base:Nat}:∀ (N fuel:Nat) (cs:List Value) (x:DataW H×List MemPlace),fuel<=N->DataW.trod enc Tryz.prog W base sp held fuel 29 cs=some x ->
  ∃ t,RN W t cs/\sizeR t<=Rows.uptoBulk x.1/\(Rows.uptoBulk x.1<=1048576->FitG t)
 | N,fuel,cs,x,hN,h=>by
  obtain ⟨xs,n,hfuel,rfl,hcl,hxl,hf⟩:=DataW.trod_struct Tryz.underlying29 h
  rw [c_node] at hcl
  match cs,hcl,xs,hxl with
  | [v0,v1,v2,v3,v4,v5],_,[y0,y1,y2,y3,y4,y5],_ =>
   have h0:=hf 0 _ rfl
   have h1:=hf 1 _ rfl
   have h2:=hf 2 _ rfl
   have h3:=hf 3 _ rfl
   have h4:=hf 4 _ rfl
   have h5:=hf 5 _ rfl
   simp only [List.getElem_toArray,List.getElem_cons_zero,List.getElem_cons_succ] at h0 h1 h2 h3 h4 h5
   rw [c_int] at h0
   rw [c_nums] at h1
   rw [c_text] at h2
   rw [c_str] at h3
   rw [c_i32] at h4
   rw [c_kids] at h5
   simp at h0 h1 h2 h3 h4 h5
   obtain ⟨k,e0,rfl,w0⟩:=DataW.trod_int Tryz.underlying3 h0
   obtain ⟨c,e4,rfl,w4⟩:=DataW.trod_int Tryz.underlying21 h4
   obtain ⟨s,e3,rfl,w3⟩:=DataW.trod_string Tryz.underlying9 h3
   obtain rfl:v0= .int .i64 k:=by simpa using e0
   obtain rfl:v4= .int .i32 c:=by simpa using e4
   obtain rfl:v3= .string s:=by simpa using e3
   obtain ⟨nums,rn,bn,qn⟩:=slice_reads (Value.float .f64) 0 (fun b=>b < 18446744073709551616) Tryz.underlying26 c_f64 (fun h=>trodF h) h1
   obtain ⟨text,rt,bt,-⟩:=slice_reads (Value.int .i32) 0 (fun _=>True) Tryz.underlying27 c_i32 (fun h=>by obtain ⟨b,hb,_⟩:=DataW.trod_int Tryz.underlying21 h;exact ⟨b,by simpa using hb,trivial⟩) h2
   rcases DataW.trod_slice Tryz.underlying22 h5 with ⟨hcs,rfl⟩ | ⟨a,len,cap,elems,rest,n',hn',hcs,rfl,_,hle,_,hel,hcell,_,_⟩
   ·obtain rfl:v5= .slice none 0 0:=by simpa using hcs
    refine ⟨.mk k nums text s c [],?_,?_,?_⟩
    ·rw [RN];exact ⟨_,_,_,rfl,rn,rt,.inl ⟨rfl,none,0,rfl⟩⟩
    ·simp only [sizeR,sizeRs,Rows.uptoBulk];omega
    ·intro hb
     simp only [Rows.uptoBulk,List.map_cons,Rows.uptoBulkAll] at hb
     rw [FitG];exact ⟨by omega,qn,by omega,by simp at hb;omega,by simp,by rw [FitGs];trivial⟩
   ·obtain rfl:v5= .slice (some a) len cap:=by simpa using hcs
    have hk:∀ i,∃ t,i < len->∃ v0 v1 v2 v3 v4 v5 d,elems[i]?=some d/\(∀ j,j < 6->W.cell? (a.add (i*6+j))=[v0,v1,v2,v3,v4,v5][j]?)/\RN W t [v0,v1,v2,v3,v4,v5]/\sizeR t<=Rows.uptoBulk d.1/\(Rows.uptoBulk d.1<=1048576->FitG t):=by
     intro i
     by_cases hi:i < len
     ·have:=hcell i hi
      have he:elems[i]?=some (elems[i]'(by omega)):=List.getElem?_eq_getElem (by omega)
      rw [he,c_node,Option.bind_eq_some_iff] at this
      obtain ⟨cs',hc1,hc2⟩:=this
      obtain ⟨t,q1,q2,q3⟩:=node_open (N - 1) n' cs' _ (by omega) hc2
      obtain ⟨_,hcl',hat⟩:=World.cells?_some hc1
      match cs',hcl' with
      | [z0,z1,z2,z3,z4,z5],_ =>
       exact ⟨t,fun _=>⟨z0,z1,z2,z3,z4,z5,_,he,fun j hj=>by rw [<- Go.Deep.add_add];exact hat j hj,q1,q2,q3⟩⟩
     ·exact ⟨.mk 0 [] [] ⟨#[]⟩ 0 [],fun h=>absurd h hi⟩
    obtain ⟨T,hT⟩:=Classical.axiomOfChoice hk
    have hts:((List.range len).map T).length=len:=by simp
    have hsum:sizeRs ((List.range len).map T)<=Rows.uptoBulkAll (elems.map (·.1)):=sizeRs_bulk _ _ (by simp [hel]) fun i h1 h2=>by
     have hi:i < len:=by simpa using h1
     obtain ⟨_,_,_,_,_,_,d,he,_,_,hs,_⟩:=hT i hi
     have he':elems[i]'(by omega)=d:=by rw [List.getElem?_eq_getElem (by omega)] at he;exact Option.some.inj he
     simp [he'];exact hs
    refine ⟨.mk k nums text s c ((List.range len).map T),?_,?_,?_⟩
    ·rw [RN]
     refine ⟨_,_,_,rfl,rn,rt,?_⟩
     by_cases h0:len=0
     ·subst h0;exact .inl ⟨rfl,_,_,rfl⟩
     ·obtain ⟨_,_,_,_,_,_,_,_,hc0,_⟩:=hT 0 (by omega)
      obtain ⟨bl,off,spot⟩:=a
      have hspot:spot=none:=by have:=hc0 0 (by omega);simpa [Addr.add] using World.cell?_spot this
      subst hspot
      have hadd:∀ m,(⟨bl,off,none⟩:Addr).add m=⟨bl,off+m,none⟩:=fun m=>by
       unfold Addr.add;split
       ·rename_i h0;subst h0;rfl
       ·rfl
      refine .inr ⟨by intro e;have:=congrArg List.length e;simp at this;omega,bl,off,cap,by rw [hts],by rw [hts];exact hle,rks_of _ _ fun i hi=>?_⟩
      have hi':i < len:=by simpa using hi
      obtain ⟨v0,v1,v2,v3,v4,v5,d,_,hc,hr,_,_⟩:=hT i hi'
      refine ⟨v0,v1,v2,v3,v4,v5,?_,?_,?_,?_,?_,?_,by simpa using hr⟩
      ·have:=hc 0 (by omega);rw [hadd] at this;simpa using this
      ·have:=hc 1 (by omega);rw [hadd] at this;simpa [Nat.add_assoc] using this
      ·have:=hc 2 (by omega);rw [hadd] at this;simpa [Nat.add_assoc] using this
      ·have:=hc 3 (by omega);rw [hadd] at this;simpa [Nat.add_assoc] using this
      ·have:=hc 4 (by omega);rw [hadd] at this;simpa [Nat.add_assoc] using this
      ·have:=hc 5 (by omega);rw [hadd] at this;simpa [Nat.add_assoc] using this
    ·simp only [sizeR,Rows.uptoBulk,List.map_cons,Rows.uptoBulkAll];omega
    ·intro hb
     simp only [Rows.uptoBulk,List.map_cons,Rows.uptoBulkAll] at hb
     rw [FitG]
     refine ⟨by omega,qn,by omega,by simp at hb;omega,by rw [hts];have:=bulk_len (elems.map (·.1));simp at this;omega,fitRs_of _ fun i hi=>?_⟩
     have hi':i < len:=by simpa using hi
     obtain ⟨_,_,_,_,_,_,d,he,_,_,_,hft⟩:=hT i hi'
     have hm:d.1∈elems.map (·.1):=List.mem_map.2 ⟨d,List.mem_of_getElem? he,rfl⟩
     have:=part_le hm
     simpa using hft (by omega)
 termination_by N=>N
 decreasing_by omega
end Go.Proofs.YtbakjaliponbbaaGreatDoor
