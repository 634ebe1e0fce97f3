/- The walk of squeeze.Into: into whole numbers, into the same store, into none; Into and Squeeze as they are used. squeeze.Into and squeeze.Squeeze at a Vec of .. Conditions: as each theorem says. -/
import Derived.Test.YtbakjaliponbbaaGreatDoorMg05
import Derived.Test.YtbakjaliponbbaaGreatDoorMg04
import Derived.Test.YtbakjaliponbbaaGreatDoorMg02
import Derived.Test.YtbakjaliponbbaaGreatDoorMg00
import Derived.Laws.BitsAllLaws
import Derived.Test.YtbakjaliponbbaaGreatDoorMg03
set_option maxRecDepth 100000
set_option maxHeartbeats 1000000
namespace Go.Proofs.YtbakjaliponbbaaGreatDoor
open Go Go.RowKit Go.Proofs Fl
theorem into_3 (H:Nat->Prop) (k:Int) (b:Value) (bn:Int) (s i f c x:Value) (n:Nat) (F:Nat->Nat) (w:World) (hk:k≠3) (hn:n<=1000000) (hH:∀ b,H b->b < w.heap.size)
  (hN:∀ W,Below w.heap.size w W->NumV (vecV k b bn s i f c x) k n F W) :
  Calls Tryz.prog 194 #[vecV k b bn s i f c x,.int .i64 3] w (Sub H w (PI 3 n F)):=by
 have hk0:k≠0:=by rcases (hN w (Below.refl _ _)).kind with e | e | e | e <;> omega
 have main:∀ K,K<=n->(∀ j,j < K->∃ z,wholeP (F j)=some z)->(K < n->wholeP (F K)=none)->Calls Tryz.prog 194 #[vecV k b bn s i f c x,.int .i64 3] w (Sub H w (PI 3 n F)):=by
  intro K hK hy hno
  have HFY:Hid (K=n->fitB 3 F n=true):=by
   intro e
   unfold fitB
   rw [if_neg (by decide),if_neg (by decide),if_pos rfl,all_range]
   intro j hj
   obtain ⟨z,hz⟩:=hy j (by omega)
   rw [hz];rfl
  have HFN:Hid (K < n->fitB 3 F n=false):=by
   intro e
   unfold fitB
   rw [if_neg (by decide),if_neg (by decide),if_pos rfl]
   exact all_bad e (by show (wholeP (F K)).isSome=false;rw [hno e];rfl)
  have HYY:=Lib.hid hy
  have HHH:=Lib.hid hH
  have HI:=Lib.hid (fun (W:World) (hb:Below w.heap.size w W)=>sqwholes_any k b bn s i f c x n K F W hn (fun W' hb'=>hN W' (bel_both hb hb')) hK hy hno)
  have HK:=Lib.hid (fun W=>kind_any k b bn s i f c x W)
  have HC:=Lib.hid (fun W hb=>(hN W hb).cls)
  clear hN hy hno hH
  have e2:(k==3)=false:=by simpa using hk
  have e0:(k==0)=false:=by simpa using hk0
  go_enter Tryz.func194,Tryz.ntmps194
  go_wp2_with fail
  refine (HK.out _).mono ?_
  rintro e w1 ⟨rfl,hb1⟩
  have HS1:=Lib.hid ((St.new w k b bn s i f c x).step hb1)
  obtain ⟨h0,h1,h2,h3,h4,h5,h6,h7⟩:=HS1.out.box
  clear hb1
  go_wp2_with fail
  refine (HC.out _ HS1.out.bel).mono ?_
  rintro e w2 ⟨rfl,hb2⟩
  have HS2:=Lib.hid (HS1.out.step hb2)
  clear hb2 h0 h1 h2 h3 h4 h5 h6 h7 HS1
  obtain ⟨h0,h1,h2,h3,h4,h5,h6,h7⟩:=HS2.out.box
  go_wp2_with fail
  refine (HK.out _).mono ?_
  rintro e w3 ⟨rfl,hb3⟩
  have HS3:=Lib.hid (HS2.out.step hb3)
  clear hb3 h0 h1 h2 h3 h4 h5 h6 h7 HS2
  obtain ⟨h0,h1,h2,h3,h4,h5,h6,h7⟩:=HS3.out.box
  go_wp2_with fail
  refine (HI.out _ HS3.out.bel).mono ?_
  rintro e w4 (⟨hKn,g,rfl,ho,hb4⟩ | ⟨hKn,rfl,hb4⟩)
  ·have HS4:=Lib.hid (HS3.out.step hb4)
   have HII:=Lib.hid (ints_any (w:=w4) (l:=(List.range n).map fun j=>zOf (F j)) (by rw [List.map_map];exact ho.reads) (by simpa using hn) (fun y hy=>by
    obtain ⟨j,hj,rfl⟩:=List.mem_map.1 hy
    obtain ⟨z,hz⟩:=HYY.out j (by have:=List.mem_range.1 hj;omega)
    rw [zOf_of hz]
    exact (wholeP_some hz).1))
   have HFI:=Lib.hid (HFY.out hKn)
   have HKN:=Lib.hid hKn
   clear hb4 ho hKn h0 h1 h2 h3 h4 h5 h6 h7 HS3
   go_wp2_with fail
   refine HII.out.mono ?_
   rintro e w5 ⟨u,rfl,hou,hb5⟩
   rw [List.map_map] at hou
   have HS5:=Lib.hid (HS4.out.step hb5)
   have HU:=Lib.hid (hou.lower (show w.heap.size+2<=w4.heap.size from HS4.out.sz))
   obtain ⟨a,n',c',hu⟩:∃ a n c,u= .slice a n c:=by obtain ⟨a,c,e⟩:=hou.reads.len;exact ⟨a,_,c,e⟩
   subst hu
   clear hb5 hou
   have HKE:Hid (Keeps (fun j=>j < w.heap.size+2) w5 (PI 3 n F (vecW 3 (none,0,0) 0 (none,0,0) (a,n',c') (none,0,0) (none,0,0) (none,0,0)) true)) :=
    (HU.out.keeps).imp fun W' h2=>⟨HFI.out.symm,(fun _=>(numV_ints (l:=fun j=>zOf (F j)) ⟨⟨_,rfl,h2⟩,fun j hj=>by
     obtain ⟨z,hz⟩:=HYY.out j (by rw [HKN.out];exact hj)
     show Good (zOf (F j))
     rw [zOf_of hz]
     exact (wholeP_some hz).1⟩).congr fun j hj=>by
      obtain ⟨z,hz⟩:=HYY.out j (by rw [HKN.out];exact hj)
      exact (fi_zOf hz).symm),fun e=>by cases e⟩
   obtain ⟨⟨h0,h1,h2,h3,h4,h5,h6,h7⟩,hz⟩:=boxed_of HS5.out.res
   go_wp2
   refine bodyPost_ret (v := .tuple #[vecV 3 vnil 0 vnil (.slice a n' c') vnil vnil vnil,.bool true]) ?_ rfl ⟨3,(none,0,0),0,(none,0,0),(a,n',c'),(none,0,0),(none,0,0),(none,0,0),true,rfl,(HKE.out.set8 (Nat.lt_succ_self _) _ _ _ _ _ _ _ _).sub (fun j _ e=>by have:=HHH.out j e;show j < w.heap.size+2;omega),below_set8 HS5.out.bel (Nat.le_succ _) _ _ _ _ _ _ _ _⟩
   exact ret_vec2 (fn:=Tryz.f194) (p:=4) (u:=5) rfl _ _ (w.heap.size+1) (by rfl) (set8_block HS5.out.res _ _ _ _ _ _ _ _)
  ·have HS4:=Lib.hid (HS3.out.step hb4)
   have HFI:=Lib.hid (HFN.out hKn)
   clear hb4 hKn h0 h1 h2 h3 h4 h5 h6 h7 HS3
   obtain ⟨⟨h0,h1,h2,h3,h4,h5,h6,h7⟩,hz⟩:=boxed_of HS4.out.res
   go_wp2
   refine bodyPost_ret (v := .tuple #[vecV 0 vnil 0 vnil vnil vnil vnil vnil,.bool false]) ?_ rfl ⟨0,(none,0,0),0,(none,0,0),(none,0,0),(none,0,0),(none,0,0),(none,0,0),false,rfl,Keeps.noVec HFI.out,below_set8 HS4.out.bel (Nat.le_succ _) _ _ _ _ _ _ _ _⟩
   exact ret_vec2 (fn:=Tryz.f194) (p:=4) (u:=5) rfl _ _ (w.heap.size+1) (by rfl) (set8_block HS4.out.res _ _ _ _ _ _ _ _)
 rcases first_bad (fun j=>(wholeP (F j)).isSome) n with h | ⟨K,h1,h2,h3⟩
 ·exact main n (Nat.le_refl _) (fun j hj=>Option.isSome_iff_exists.1 (h j hj)) (fun h=>absurd h (Nat.lt_irrefl _))
 ·exact main K (by omega) (fun j hj=>Option.isSome_iff_exists.1 (h3 j hj)) (fun _=>by
   cases hw:wholeP (F K) with
   | none=>rfl
   | some z=>rw [hw] at h2;cases h2)
theorem into_same (H:Nat->Prop) (P:Value->Bool->World->Prop) (k:Int) (b:Sl) (bn:Int) (s i f c x:Sl) (w:World)
  (hP:Keeps H w (P (vecW k b bn s i f c x) true)) :
  Calls Tryz.prog 194 #[vecW k b bn s i f c x,.int .i64 k] w (Sub H w P):=by
 have HK:=Lib.hid (fun W=>kind_any k (.slice b.1 b.2.1 b.2.2) bn (.slice s.1 s.2.1 s.2.2) (.slice i.1 i.2.1 i.2.2) (.slice f.1 f.2.1 f.2.2) (.slice c.1 c.2.1 c.2.2) (.slice x.1 x.2.1 x.2.2) W)
 have HKP:=Lib.hid (fun W (hb:Below w.heap.size w W)=>hP.arg hb)
 have ek:(k==k)=true:=by simp
 have HS0:=Lib.hid (St.new w k (.slice b.1 b.2.1 b.2.2) bn (.slice s.1 s.2.1 s.2.2) (.slice i.1 i.2.1 i.2.2) (.slice f.1 f.2.1 f.2.2) (.slice c.1 c.2.1 c.2.2) (.slice x.1 x.2.1 x.2.2))
 clear hP
 go_enter Tryz.func194,Tryz.ntmps194
 go_wp2_with fail
 refine (HK.out _).mono ?_
 rintro e w1 ⟨rfl,hb1⟩
 have HS1:=Lib.hid (HS0.out.step hb1)
 have HKE:=Lib.hid (HKP.out _ HS1.out.bel)
 clear hb1
 obtain ⟨h0,h1,h2,h3,h4,h5,h6,h7⟩:=HS1.out.box
 obtain ⟨⟨g0,g1,g2,g3,g4,g5,g6,g7⟩,gz⟩:=boxed_of HS1.out.res
 have HSZ:=Lib.hid HS1.out.sz
 go_wp2
 refine bodyPost_ret (v := .tuple #[vecW k b bn s i f c x,.bool true]) ?_ rfl ⟨k,b,bn,s,i,f,c,x,true,rfl,(HKE.out.set8 (.inr ⟨Nat.le_succ _,HSZ.out⟩) _ _ _ _ _ _ _ _).sub (fun _ _ e => .inl e),below_set8 HS1.out.bel (Nat.le_succ _) _ _ _ _ _ _ _ _⟩
 exact ret_vec2 (fn:=Tryz.f194) (p:=4) (u:=5) rfl _ _ (w.heap.size+1) (by rfl) (set8_block HS1.out.res _ _ _ _ _ _ _ _)
theorem rank1 {b:Nat} (h:rankF b<=1):isT b=true:=by
 unfold rankF at h
 split at h
 ·rename_i z e
  have hb:=(wholeP_some e).2
  have hz:z=0\/z=1:=by
   unfold rankS at h
   split at h
   ·assumption
   ·split at h <;> omega
  unfold isT
  rw [decide_eq_true_eq]
  rcases hz with rfl | rfl
  ·left;rw [hb,fi_zero]
  ·right;rw [hb,fi_one]
 ·omega
theorem rank2 {b:Nat} (h:rankF b<=2):smallB b=true:=by
 unfold rankF at h
 unfold smallB
 split at h
 ·rename_i z e
  try rw [e]
  show decide _=true
  rw [decide_eq_true_eq]
  unfold rankS at h
  split at h
  ·omega
  ·split at h
   ·assumption
   ·omega
 ·omega
theorem rank3 {b:Nat} (h:rankF b<=3):(wholeP b).isSome=true:=by
 unfold rankF at h
 split at h
 ·rename_i z e;rw [e];rfl
 ·omega
theorem fit_least (F:Nat->Nat) (n:Nat):fitB (leastF F n:Nat) F n=true:=by
 have hle:=leastF_le F n
 have hr:∀ j,j < n->rankF (F j)<=leastF F n:=fun j hj=>leastF_rank F hj
 unfold fitB
 rcases (by omega:leastF F n=1\/leastF F n=2\/leastF F n=3\/leastF F n=4) with e | e | e | e
 ·rw [show ((leastF F n:Nat):Int)=1 by omega,if_pos rfl,all_range];exact fun j hj=>rank1 (by have:=hr j hj;omega)
 ·rw [show ((leastF F n:Nat):Int)=2 by omega,if_neg (by decide),if_pos rfl,all_range];exact fun j hj=>rank2 (by have:=hr j hj;omega)
 ·rw [show ((leastF F n:Nat):Int)=3 by omega,if_neg (by decide),if_neg (by decide),if_pos rfl,all_range];exact fun j hj=>rank3 (by have:=hr j hj;omega)
 ·rw [show ((leastF F n:Nat):Int)=4 by omega,if_neg (by decide),if_neg (by decide),if_neg (by decide)]
theorem into_num (H:Nat->Prop) (kd k:Int) (b:Sl) (bn:Int) (s i f c x:Sl) (n:Nat) (F:Nat->Nat) (w:World) (hH:∀ b,H b->b < w.heap.size) (hn:n<=1000000)
  (hv:Keeps H w (NumV (vecW k b bn s i f c x) k n F)) (hkd:kd=1\/kd=2\/kd=3\/(kd=4/\k=4)) (hf:kd=k->fitB kd F n=true) :
  Calls Tryz.prog 194 #[vecW k b bn s i f c x,.int .i64 kd] w (Sub H w (PI kd n F)):=by
 have hN:∀ W,Below w.heap.size w W->NumV (vecW k b bn s i f c x) k n F W:=fun W hb=>(hv.step hb).now
 have hkind:=(hN w (Below.refl _ _)).kind
 by_cases e:kd=k
 ·subst e
  exact into_same H _ kd b bn s i f c x w (hv.imp fun W h=>⟨(hf rfl).symm,fun _=>h,fun e=>by cases e⟩)
 ·rcases hkd with rfl | rfl | rfl | ⟨rfl,rfl⟩
  ·exact into_1 H _ k _ bn _ _ _ _ _ w (fun h=>e h.symm) (by omega) hH (fun W hb=>(hN W hb).cls) fun W H' hb hH'=>intoBits_sub H' k _ bn _ _ _ _ _ n F W hH' hn fun W' hb'=>hN W' (bel_both hb hb')
  ·exact into_2 H _ k _ bn _ _ _ _ _ w (fun h=>e h.symm) (by omega) hH (fun W hb=>(hN W hb).cls) fun W H' hb hH'=>intoSmalls_sub H' k _ bn _ _ _ _ _ n F W hH' hn fun W' hb'=>hN W' (bel_both hb hb')
  ·exact into_3 H k _ bn _ _ _ _ _ n F w (fun h=>e h.symm) hn hH hN
  ·exact absurd rfl e
theorem sub_intoR {H:Nat->Prop}{w W:World}{kd:Int}{n:Nat}{F:Nat->Nat} (hf:fitB kd F n=true) (e:Ending) (w':World) (h:Sub (Hole H w W) W (PI kd n F) e w'):IntoR H w W (fun u W'=>NumV u kd n F W') e w':=by
 obtain ⟨k,b,bn,s,i,f,c,x,t,rfl,hk,hb⟩:=h
 have ht:t=true:=by rw [hk.now.1,hf]
 subst ht
 exact ⟨k,b,bn,s,i,f,c,x,rfl,hk.imp fun W' h=>h.2.1 rfl,hb⟩
theorem squeeze_num (H:Nat->Prop) (k:Int) (b:Sl) (bn:Int) (s i f c x:Sl) (n:Nat) (F:Nat->Nat) (w:World) (hH:∀ b,H b->b < w.heap.size) (hn:n<=1000000)
  (hv:Keeps H w (NumV (vecW k b bn s i f c x) k n F)) :
  Calls Tryz.prog 141 #[vecW k b bn s i f c x] w (VecR H w (fun u W=>NumV u (leastF F n:Nat) n F W)):=by
 have hN:∀ W,Below w.heap.size w W->NumV (vecW k b bn s i f c x) k n F W:=fun W hb=>(hv.step hb).now
 have hkind:=(hN w (Below.refl _ _)).kind
 have hle:=leastF_le F n
 refine squeeze_any H _ (leastF F n:Nat) k _ bn _ _ _ _ _ w (fun W hb=>?_) (fun W hb=>?_)
 ·rcases hkind with e | e | e | e
  ·exact least_whole k (.inl e) _ bn _ _ _ _ _ n F W (by omega) fun W' hb'=>hN W' (bel_both hb hb')
  ·exact least_whole k (.inr (.inl e)) _ bn _ _ _ _ _ n F W (by omega) fun W' hb'=>hN W' (bel_both hb hb')
  ·exact least_whole k (.inr (.inr e)) _ bn _ _ _ _ _ n F W (by omega) fun W' hb'=>hN W' (bel_both hb hb')
  ·subst e
   exact least_float _ bn _ _ _ _ _ n F W (by omega) fun W' hb'=>hN W' (bel_both hb hb')
 ·refine (into_num (Hole H w W) (leastF F n:Nat) k b bn s i f c x n F W (Hole.lt hH hb) hn (hv.arg hb) ?_ (fun _=>fit_least F n)).mono (sub_intoR (fit_least F n))
  rcases (by omega:leastF F n=1\/leastF F n=2\/leastF F n=3\/leastF F n=4) with e | e | e | e
  ·left;omega
  ·right;left;omega
  ·right;right;left;omega
  ·right;right;right
   refine ⟨by omega,?_⟩
   rcases hkind with e2 | e2 | e2 | e2
   ·have:=leastF_ints F n ((hN w (Below.refl _ _)).ints (by omega));omega
   ·have:=leastF_ints F n ((hN w (Below.refl _ _)).ints (by omega));omega
   ·have:=leastF_ints F n ((hN w (Below.refl _ _)).ints (by omega));omega
   ·exact e2
theorem ntidy_tf {b:Nat} (h:TF b) (w:World):Calls Tryz.prog 166 #[.float .f64 b] w fun e w'=>e= .returned (.tuple #[.float .f64 b,.bool true])/\w=w':=by
 have hd:=doneP_tf h
 obtain ⟨s,Z,hz,rfl,h0⟩:=h
 have h1:=ntidy_num s hz w
 rw [doneP_num s hz] at hd
 rw [(Prod.mk.inj hd).1] at h1
 exact h1
theorem bits_tf {b:Nat} (h:TF b) (w:World):Calls Tryz.prog 186 #[.float .f64 b,.float .f64 b] w fun e w'=>e= .returned (.bool true)/\w=w':=by
 obtain ⟨s,Z,hz,rfl,h0⟩:=h
 exact bits_same' s hz w
theorem floats_zero (a:Option Addr) (c:Nat) (w:World) :
  Calls Tryz.prog 205 #[.slice a 0 c] w fun e w'=>∃ u,e= .returned (.tuple #[vecV 4 vnil 0 vnil vnil u vnil vnil,.bool true])/\Own1 w' w.heap.size 96 u []/\Below w.heap.size w w':=by
 have hmk:=run_make_row' (P:=Tryz.prog) 26 96 (.float .f64 0) 8 Tryz.underlying26 info_f64 rfl .i64 .i64 0 (by omega) (by omega)
 rw [show ((0:Nat):Int)=0 from rfl] at hmk
 have hsz:(w.alloc (.cells #[.int .i64 4,vnil,.int .i64 0,vnil,vnil,.slice (some ⟨w.heap.size+1,0,none⟩) 0 0,vnil,vnil] 57)).heap.size=w.heap.size+1:=by simp
 have HF0:=Lib.hid (Fill.made (w.alloc (.cells #[.int .i64 4,vnil,.int .i64 0,vnil,vnil,.slice (some ⟨w.heap.size+1,0,none⟩) 0 0,vnil,vnil] 57)) w.heap.size (by simp) 96 (fun _ => .float .f64 0) (.float .f64 0) 0 (by unfold maxLen;omega)).own
 rw [hsz] at HF0
 have HB0:=Lib.hid (bel2 w (.cells #[.int .i64 4,vnil,.int .i64 0,vnil,vnil,.slice (some ⟨w.heap.size+1,0,none⟩) 0 0,vnil,vnil] 57) (.cells (madeCells #[.float .f64 0] 0) 96))
 have HK0:=Lib.hid (block_up (bel1 (w.alloc (.cells #[.int .i64 4,vnil,.int .i64 0,vnil,vnil,.slice (some ⟨w.heap.size+1,0,none⟩) 0 0,vnil,vnil] 57)) (.cells (madeCells #[.float .f64 0] 0) 96)))
 clear hsz
 go_enter Tryz.func205,Tryz.ntmps205
 go_wp2
 refine wp_loop_rounds 1 ?_
 rw [rounds_succ]
 go_wp2
 refine bodyPost_ret (v := .tuple #[vecV 4 vnil 0 vnil vnil (.slice (some ⟨w.heap.size+1,0,none⟩) 0 0) vnil vnil,.bool true]) ?_ rfl ⟨.slice (some ⟨w.heap.size+1,0,none⟩) 0 0,rfl,HF0.out,HB0.out⟩
 exact ret_vec2 (fn:=Tryz.f205) (p:=2) (u:=3) rfl _ _ w.heap.size (by rfl) HK0.out
theorem floats_any {w:World}{v:Value}{n:Nat}{F:Nat->Nat} (hr:Reads1 w v ((List.range n).map fun j => .float .f64 (F j))) (hn:n<=1000000) (ht:∀ j,j < n->TF (F j)) :
  Calls Tryz.prog 205 #[v] w fun e w'=>∃ a m c,e= .returned (.tuple #[vecV 4 vnil 0 vnil vnil (.slice a m c) vnil vnil,.bool true])/\Own1 w' w.heap.size 96 (.slice a m c) ((List.range n).map fun j => .float .f64 (F j))/\Below w.heap.size w w':=by
 obtain ⟨a,c,rfl,hc⟩:=reads_at hr
 by_cases h0:n=0
 ·subst h0
  refine (floats_zero a c w).mono ?_
  rintro e w' ⟨u,rfl,ho,hb⟩
  obtain ⟨a,c,rfl⟩:∃ a c,u= .slice a 0 c:=ho.reads.len
  exact ⟨a,0,c,rfl,ho,hb⟩
 ·obtain ⟨b,o,rfl,_⟩:=hc 0 (by omega)
  refine (floats_walk b o n c F F hn w (fun i hi=>?_) (fun i hi W=>ntidy_tf (ht i hi) W)).mono ?_
  ·obtain ⟨b',o',e,hcell⟩:=hc i hi
   injection e with e
   injection e with e1 e2 _
   subst e1;subst e2
   exact hcell
  ·rintro e w' ⟨u,rfl,ho,hb⟩
   obtain ⟨a,c,rfl⟩:=ho.reads.len
   exact ⟨a,_,c,rfl,ho,hb⟩
theorem numbers_any (H:Nat->Prop) (v:Value) (n:Nat) (F:Nat->Nat) (w:World) (hH:∀ b,H b->b < w.heap.size) (hr:Reads1 w v ((List.range n).map fun j => .float .f64 (F j))) (hn:n<=1000000) (ht:∀ j,j < n->TF (F j)) :
  Calls Tryz.prog 151 #[v] w (Vec2R H w (fun u W=>NumV u (leastF F n:Nat) n F W)):=by
 have HF:=Lib.hid (floats_any (hr.below (bel1 w (.cells zcells 57))) hn ht)
 have HT:=Lib.hid ht
 have HH:=Lib.hid hH
 obtain ⟨v1,v2,v3,rfl⟩:∃ a m c,v= .slice a m c:=by obtain ⟨a,c,e⟩:=hr.len;exact ⟨a,_,c,e⟩
 clear hr ht hH
 go_enter Tryz.func151,Tryz.ntmps151
 go_wp2_with fail
 refine HF.out.mono ?_
 rintro e w1 ⟨a,m,c,rfl,ho,hb1⟩
 have HK1:=Lib.hid (block_up hb1)
 have HB1:=Lib.hid (bel_both (bel1 w _) hb1)
 have HO:=Lib.hid (ho.lower (show w.heap.size+1<=_ by simp))
 clear hb1 ho
 have HB2:=Lib.hid (bel_both HB1.out (bel1 w1 (.cells #[.int .i64 4,vnil,.int .i64 0,vnil,vnil,.slice a m c,vnil,vnil] 57)))
 have HK2:=Lib.hid ((Below.heap_alloc w1 (.cells #[.int .i64 4,vnil,.int .i64 0,vnil,vnil,.slice a m c,vnil,vnil] 57) _ (lt_of_block HK1.out)).trans HK1.out)
 have HKV:Hid (Keeps (fun j=>H j\/j=w.heap.size) (w1.alloc (.cells #[.int .i64 4,vnil,.int .i64 0,vnil,vnil,.slice a m c,vnil,vnil] 57)) (NumV (vecW 4 (none,0,0) 0 (none,0,0) (none,0,0) (a,m,c) (none,0,0) (none,0,0)) 4 n F)) :=
  ((HO.out.keepsH (fun j e=>by rcases e with e | e;have:=HH.out j e;omega;omega)).imp fun W' h2=>numV_floats ⟨⟨_,rfl,h2⟩,HT.out⟩).step (bel1 w1 _)
 have HS:=Lib.hid (squeeze_num (fun j=>H j\/j=w.heap.size) 4 (none,0,0) 0 (none,0,0) (none,0,0) (a,m,c) (none,0,0) (none,0,0) n F _ (fun j e=>by
  have h1:=HB2.out.size
  have h2:=lt_of_block HK2.out
  rcases e with e | e
  ·have:=HH.out j e;omega
  ·omega) hn HKV.out)
 go_wp2_with fail
 refine HS.out.mono ?_
 rintro e w3 ⟨k4,b4,bn4,s4,i4,f4,c4,x4,rfl,hk4,hb4⟩
 have HB4:=Lib.hid (bel_both HB2.out hb4)
 have HK4:=Lib.hid (show w3.heap[w.heap.size]?=some (.cells zcells 57) by rw [hb4.block _ (lt_of_block HK2.out)];exact HK2.out)
 have HKE:=Lib.hid hk4
 clear hb4 hk4
 obtain ⟨⟨h0,h1,h2,h3,h4,h5,h6,h7⟩,hz⟩:=boxed_of HK4.out
 go_wp2
 refine bodyPost_ret (v := .tuple #[vecW k4 b4 bn4 s4 i4 f4 c4 x4,.bool true]) ?_ rfl ⟨k4,b4,bn4,s4,i4,f4,c4,x4,rfl,(HKE.out.set8 (.inr rfl) _ _ _ _ _ _ _ _).sub (fun _ _ e => .inl e),below_set8 HB4.out (Nat.le_refl _) _ _ _ _ _ _ _ _⟩
 exact ret_vec2 (fn:=Tryz.f151) (p:=2) (u:=3) rfl _ _ w.heap.size (by rfl) (set8_block HK4.out _ _ _ _ _ _ _ _)
theorem St.two {w W W':World}{k:Int}{b:Value}{bn:Int}{s i f c x:Value} (h:St w W k b bn s i f c x) (hb:Below (w.heap.size+2) W W'):St w W' k b bn s i f c x :=
 ⟨h.box.of fun j=>hb.cell (p:=⟨w.heap.size,j,none⟩) (by show w.heap.size < _;omega),by rw [hb.block _ (by omega)];exact h.res,h.bel.trans (hb.mono (by omega))⟩
theorem packed_yes (a:Sl) (bn:Int) (s i f c x:Value) (w:World) :
  Calls Tryz.prog 181 #[vecV 1 (.slice a.1 a.2.1 a.2.2) bn s i f c x] w fun e w'=>e= .returned (.tuple #[.agg #[.slice a.1 a.2.1 a.2.2,.int .i64 bn],.bool true])/\Below w.heap.size w w':=by
 have HK:=Lib.hid (heap_alloc_new (w.alloc (.cells #[.int .i64 1,.slice a.1 a.2.1 a.2.2,.int .i64 bn,s,i,f,c,x] 57)) (.cells #[.slice a.1 a.2.1 a.2.2,.int .i64 bn] 52))
 go_enter Tryz.func181,Tryz.ntmps181
 go_wp2
 refine bodyPost_ret (v := .tuple #[.agg #[.slice a.1 a.2.1 a.2.2,.int .i64 bn],.bool true]) ?_ rfl ⟨rfl,bel2 _ _ _⟩
 exact ret_bits2 (fn:=Tryz.f181) (p:=2) (u:=3) rfl _ _ (w.heap.size+1) (by rfl) (by have h:=HK.out;simpa using h)
theorem vkind_any (k:Int) (b:Value) (bn:Int) (s i f c x:Value) (w:World) :
  Calls Tryz.prog 52 #[vecV k b bn s i f c x] w fun e w'=>e= .returned (.int .i64 k)/\Below w.heap.size w w':=by
 go_enter Tryz.func52,Tryz.ntmps52
 go_wp2
 go_ret
 exact ⟨rfl,bel1 _ _⟩
theorem least_any {k:Int}{b:Value}{bn:Int}{s i f c x:Value}{n:Nat}{F:Nat->Nat}{w:World} (hn:n<=1000000) (hN:∀ W,Below w.heap.size w W->NumV (vecV k b bn s i f c x) k n F W) :
  Calls Tryz.prog 195 #[vecV k b bn s i f c x] w fun e w'=>e= .returned (.int .i64 (leastF F n:Nat))/\Below w.heap.size w w':=by
 rcases (hN w (Below.refl _ _)).kind with e | e | e | e
 ·exact least_whole k (.inl e) _ bn _ _ _ _ _ n F w (by omega) hN
 ·exact least_whole k (.inr (.inl e)) _ bn _ _ _ _ _ n F w (by omega) hN
 ·exact least_whole k (.inr (.inr e)) _ bn _ _ _ _ _ n F w (by omega) hN
 ·subst e
  exact least_float _ bn _ _ _ _ _ n F w (by omega) hN
theorem tight_any {k:Int}{b:Value}{bn:Int}{s i f c x:Value}{n:Nat}{F:Nat->Nat}{w:World} (hn:n<=1000000) (hN:∀ W,Below w.heap.size w W->NumV (vecV k b bn s i f c x) k n F W) :
  Calls Tryz.prog 180 #[vecV k b bn s i f c x] w fun e w'=>e= .returned (.bool (k==(leastF F n:Nat)))/\Below w.heap.size w w':=by
 have HC:=Lib.hid (fun W=>vkind_any k b bn s i f c x W)
 have HL:=Lib.hid (fun W (hw:Below w.heap.size w W)=>least_any hn (fun W' hw'=>hN W' (bel_both hw hw')))
 clear hN
 go_enter Tryz.func180,Tryz.ntmps180
 go_wp2_with fail
 go_region_with (first
  | (go_at_call 52;go_loud ((refine (HC.out _).mono ?_);rintro e w1 ⟨rfl,hb1⟩);obtain ⟨hc1,hf1⟩:=bcell2 hb1;have hz1:=hb1.size)
  | (go_at_call 195;go_loud ((refine (HL.out _ ?_).mono ?_);exact bel_both (bel1 w _).drew hb1;rintro e w2 ⟨rfl,hb2⟩);obtain ⟨hc2,hf2⟩:=bcell2 hb2;have hz2:=hb2.size))
 all_goals
  go_wp2
  go_ret
  exact ⟨rfl,bel_both (bel_both (bel1 w _).drew hb1) hb2⟩
theorem floats_bad (b o n c:Nat) (x y:Nat->Nat) (hn:n<=1000000) (w:World) (hc:∀ i,i < n->w.cell? ⟨b,o+i,none⟩=some (.float .f64 (x i)))
  (K:Nat) (hK:K < n) (ht:∀ i,i < K->∀ W,Calls Tryz.prog 166 #[.float .f64 (x i)] W fun e w'=>e= .returned (.tuple #[.float .f64 (y i),.bool true])/\W=w')
  (hbad:∀ W,Calls Tryz.prog 166 #[.float .f64 (x K)] W fun e w'=>e= .returned (.tuple #[.float .f64 0,.bool false])/\W=w') :
  Calls Tryz.prog 205 #[.slice (some ⟨b,o,none⟩) n c] w (NoVec w):=by
 have HC:Hid (∀ wr,Below w.heap.size w wr->∀ i,i < n->wr.cell? ⟨b,o+i,none⟩=some (.float .f64 (x i))):=by
  intro wr hb i h
  rw [hb.cell (cell_lt (hc i h))];exact hc i h
 have HT:=Lib.hid ht
 have HBAD:=Lib.hid hbad
 have hmk:=run_make_row' (P:=Tryz.prog) 26 96 (.float .f64 0) 8 Tryz.underlying26 info_f64 rfl .i64 .i64 n (by omega) (by omega)
 clear hc ht hbad
 have hsz:(w.alloc (.cells zcells 57)).heap.size=w.heap.size+1:=by simp
 have HF0:=Lib.hid (Fill.made (w.alloc (.cells zcells 57)) w.heap.size (by simp) 96 (fun j => .float .f64 (y j)) (.float .f64 0) n (by unfold maxLen;omega))
 rw [hsz] at HF0
 have HB0:=Lib.hid (bel2 w (.cells zcells 57) (.cells (madeCells #[.float .f64 0] n) 96))
 have HK0:=Lib.hid (block_up (bel1 (w.alloc (.cells zcells 57)) (.cells (madeCells #[.float .f64 0] n) 96)))
 clear hsz
 go_enter Tryz.func205,Tryz.ntmps205
 go_wp2
 go_loopw [14] (fun j wr=>∃ m:Nat,m<=K/\j= .int .i64 m/\Fill wr w.heap.size (w.heap.size+1) 96 (fun j => .float .f64 (y j)) (.float .f64 0) n m/\Below w.heap.size w wr/\wr.heap[w.heap.size]?=some (.cells zcells 57)) (fun j _=>n - (intOf j).toNat)
 case atStart=>exact ⟨0,Nat.zero_le _,rfl,HF0.out,HB0.out,HK0.out⟩
 case round =>
  obtain ⟨m,hm,rfl,hf,hbl,hk⟩:=hrel
  have HF:=Lib.hid hf
  have HBL:=Lib.hid hbl
  have HK:=Lib.hid hk
  clear hf hbl hk
  have hlt:m < n:=by omega
  have hcell:=HC.out wr HBL.out m hlt
  by_cases hmK:m < K
  ·have hc3:=HF.out.cell hlt
   have hz3:=HF.out.frozen m
   have HP:=Lib.hid (HF.out.put hlt)
   have HB3:=Lib.hid (HF.out.bel HBL.out m (.float .f64 (y m)))
   have HK3:=Lib.hid (show (wr.setCell ⟨w.heap.size+1,m,none⟩ (.float .f64 (y m))).heap[w.heap.size]?=some (.cells zcells 57) by rw [Below.heap_setCell _ _ _ _ (by simp)];exact HK.out)
   have hst:=fun md=>store_float hc3 hz3 .f64 (y m) md
   have HTM:=Lib.hid (HT.out m hmK)
   go_wp2_with fail
   refine (HTM.out _).mono ?_
   rintro e w3 ⟨rfl,rfl⟩
   go_wp2
   go_roundw
   case rel=>exact ⟨m+1,by omega,by go_num,HP.out,HB3.out,HK3.out⟩
   case measure=>simp [intOf];omega
  ·obtain rfl:m=K:=by omega
   obtain ⟨⟨h0,h1,h2,h3,h4,h5,h6,h7⟩,hz⟩:=boxed_of HK.out
   go_wp2_with fail
   refine (HBAD.out _).mono ?_
   rintro e w3 ⟨rfl,rfl⟩
   go_wp2
   refine bodyPost_ret (v := .tuple #[vecV 0 vnil 0 vnil vnil vnil vnil vnil,.bool false]) ?_ rfl ⟨rfl,below_set8 HBL.out (Nat.le_refl _) _ _ _ _ _ _ _ _⟩
   exact ret_vec2 (fn:=Tryz.f205) (p:=2) (u:=3) rfl _ _ w.heap.size (by rfl) (set8_block HK.out _ _ _ _ _ _ _ _)
def okF (b:Nat):Bool:=(doneP b).2==0
def tidF (b:Nat):Nat:=(doneP b).1
theorem ok_cases {b:Nat} (hb:b < 18446744073709551616):(okF b=true/\TF (tidF b)/\(∀ W,Calls Tryz.prog 166 #[.float .f64 b] W fun e w'=>e= .returned (.tuple #[.float .f64 (tidF b),.bool true])/\W=w')/\(∀ W,Calls Tryz.prog 51 #[.float .f64 b] W fun e w'=>e= .returned (.tuple #[.float .f64 (tidF b),.bool true])/\W=w')) \/
  (okF b=false/\(∀ W,Calls Tryz.prog 166 #[.float .f64 b] W fun e w'=>e= .returned (.tuple #[.float .f64 0,.bool false])/\W=w')/\(∀ W,Calls Tryz.prog 51 #[.float .f64 b] W fun e w'=>e= .returned (.tuple #[.float .f64 0,.bool false])/\W=w')):=by
 rcases classify b hb with ⟨s,Z,hz,rfl⟩ | h
 ·left
  have e:=doneP_num s hz
  have e1:tidF (W s Z)=tid s Z:=by unfold tidF;rw [e]
  have e2:okF (W s Z)=true:=by unfold okF;rw [e];rfl
  have e3:TF (tid s Z):=by
   rcases doneP_cases hb with ⟨c,hc,e4⟩ | e4
   ·rw [e] at e4
    injection e4 with e4 _
    rw [e4];exact hc
   ·rw [e] at e4
    injection e4 with _ e5
    cases e5
  rw [e1]
  exact ⟨e2,e3,fun W=>ntidy_num s hz W,fun W=>rtidy_num s hz W⟩
 ·right
  have e:doneP b=(0,24):=by rcases h with ⟨s,rfl⟩ | h;exact doneP_inf s;exact doneP_nan h
  exact ⟨by unfold okF;rw [e];rfl,fun W=>ntidy_bad h W,fun W=>rtidy_bad h W⟩
def FlsOut (n:Nat) (F:Nat->Nat) (w:World) (e:Ending) (w':World):Prop :=
 ((∀ j,j < n->okF (F j)=true)/\∃ a m c,e= .returned (.tuple #[vecV 4 vnil 0 vnil vnil (.slice a m c) vnil vnil,.bool true])/\Own1 w' w.heap.size 96 (.slice a m c) ((List.range n).map fun j => .float .f64 (tidF (F j)))/\Below w.heap.size w w') \/
 ((∃ j,j < n/\okF (F j)=false)/\NoVec w e w')
theorem floats_all {w:World}{v:Value}{n:Nat}{F:Nat->Nat} (hr:Reads1 w v ((List.range n).map fun j => .float .f64 (F j))) (hn:n<=1000000) (hF:∀ j,j < n->F j < 18446744073709551616) :
  Calls Tryz.prog 205 #[v] w (FlsOut n F w):=by
 obtain ⟨a,c,rfl,hc⟩:=reads_at hr
 by_cases h0:n=0
 ·subst h0
  refine (floats_any hr hn (fun j hj=>absurd hj (Nat.not_lt_zero _))).mono ?_
  rintro e w' ⟨a2,m,c2,rfl,ho,hb⟩
  exact .inl ⟨fun j hj=>absurd hj (Nat.not_lt_zero _),a2,m,c2,rfl,ho,hb⟩
 ·obtain ⟨b,o,rfl,_⟩:=hc 0 (by omega)
  have hcell:∀ i,i < n->w.cell? ⟨b,o+i,none⟩=some (.float .f64 (F i)):=fun i hi=>reads_cell hr i hi
  have hyes:∀ j,j < n->okF (F j)=true->∀ W,Calls Tryz.prog 166 #[.float .f64 (F j)] W fun e w'=>e= .returned (.tuple #[.float .f64 (tidF (F j)),.bool true])/\W=w':=fun j hj ho=>by
   rcases ok_cases (hF j hj) with h | h
   ·exact h.2.2.1
   ·rw [h.1] at ho;cases ho
  rcases first_bad (fun j=>okF (F j)) n with hall | ⟨K,hK,hbad,hlow⟩
  ·refine (floats_walk b o n c F (fun j=>tidF (F j)) hn w hcell (fun i hi=>hyes i hi (hall i hi))).mono ?_
   rintro e w' ⟨u,rfl,ho,hb⟩
   obtain ⟨a2,m,c2,rfl⟩:∃ a m c',u= .slice a m c':=by obtain ⟨a,c,e⟩:=ho.reads.len;exact ⟨a,_,c,e⟩
   exact .inl ⟨hall,a2,m,c2,rfl,ho,hb⟩
  ·refine (floats_bad b o n c F (fun j=>tidF (F j)) hn w hcell K hK (fun i hi=>hyes i (by omega) (hlow i hi)) ?_).mono fun e w' h => .inr ⟨⟨K,hK,hbad⟩,h⟩
   rcases ok_cases (hF K hK) with h | h
   ·rw [h.1] at hbad;cases hbad
   ·exact h.2.1
theorem NumV.kindEq {k kd:Int}{b:Sl}{bn:Int}{s i f c x:Sl}{n:Nat}{F:Nat->Nat}{w:World} (h:NumV (vecW k b bn s i f c x) kd n F w):k=kd:=by
 obtain ⟨_,_,_,_,_,_,_,e⟩:=h.shape
 injection e with e
 have e1:=congrArg (fun a:Array Value=>a.getD 0 undef) e
 have e2:Value.int .i64 k= .int .i64 kd:=e1
 injection e2
end Go.Proofs.YtbakjaliponbbaaGreatDoor
namespace Go.Proofs.YtbakjaliponbbaaGreatDoor.Fl
open Ieee Go
def wd (s:Bool) (E F:Nat):Nat:=s.toNat*9223372036854775808+E*4503599627370496+F
theorem wd_lt (s:Bool){E F:Nat} (hE:E < 2048) (hF:F < 4503599627370496):wd s E F < 18446744073709551616:=by
 unfold wd;cases s <;> simp <;> omega
end Go.Proofs.YtbakjaliponbbaaGreatDoor.Fl
namespace Go.Proofs.YtbakjaliponbbaaGreatDoor
open Go Go.RowKit Go.Proofs Fl Ieee
def BigR (b:Nat):Prop:=∃ s r,1023*4503599627370496<=r/\r<=9218868437227405312/\b=double.word s r
def LowR (b:Nat):Prop:=∃ s r,r<=1023*4503599627370496/\b=double.word s r
theorem word_lt {s:Bool}{r:Nat} (h:r<=9218868437227405312):double.word s r < 18446744073709551616:=by
 show (if s then double.signWeight+r else r) < _
 rw [signWeight]
 split <;> omega
theorem BigR.lt {b:Nat} (h:BigR b):b < 18446744073709551616:=by
 obtain ⟨s,r,_,h2,rfl⟩:=h
 exact word_lt h2
theorem LowR.lt {b:Nat} (h:LowR b):b < 18446744073709551616:=by
 obtain ⟨s,r,h2,rfl⟩:=h
 exact word_lt (by omega)
theorem BigR.read {b:Nat} (h:BigR b):(∃ s,double.read b= .infinity s)\/∃ s m i,double.read b= .number s m i/\m≠0/\0<=(m.log2:Int)+i:=by
 obtain ⟨s,r,h1,h2,rfl⟩:=h
 by_cases e:r=9218868437227405312
 ·subst e
  exact .inl ⟨s,read_inf s⟩
 ·have hr:r < 9218868437227405312:=by omega
  refine .inr ⟨s,_,_,read_word s hr,?_,?_⟩
  ·unfold mg
   rw [if_neg (by omega)]
   omega
  ·have hm:52<=(mg r).log2:=le_log2_of (by unfold mg;rw [if_neg (by omega)];omega)
   have he:1022<=ex r:=by unfold ex;rw [if_neg (by omega)];omega
   omega
theorem LowR.read {b:Nat} (h:LowR b):∃ s m q,double.read b= .number s m (-(q:Nat))/\m<=2 ^ q:=by
 obtain ⟨s,r,h1,rfl⟩:=h
 have hr:r < 9218868437227405312:=by omega
 have he:ex r<=1022:=by unfold ex;split <;> omega
 have e0:(-1074+(ex r:Int))=-((1074 - ex r:Nat):Int):=by omega
 refine ⟨s,mg r,1074 - ex r,by rw [read_word s hr,e0],?_⟩
 by_cases h52:ex r=1022
 ·rw [h52]
  have:mg r=2 ^ 52:=by
   unfold ex at h52
   unfold mg
   split at h52
   ·omega
   ·rw [if_neg (by omega)];omega
  rw [this]
  exact Nat.le_refl _
 ·have h1:=mg_lt r
  have h2:2 ^ 53<=2 ^ (1074 - ex r):=Nat.pow_le_pow_right (by decide) (by omega)
  omega
def Cl (t:Bool) (b:Nat):Prop:=if t=true then BigR b else LowR b
theorem Cl.lt {t:Bool}{b:Nat} (h:Cl t b):b < 18446744073709551616:=by
 cases t
 ·exact LowR.lt h
 ·exact BigR.lt h
end Go.Proofs.YtbakjaliponbbaaGreatDoor
namespace Go.Proofs.YtbakjaliponbbaaGreatDoor
open Go Go.RowKit Go.Proofs Fl
structure NumW (v:Value) (n:Nat) (F:Nat->Nat) (w:World):Prop where
 cls:Calls Tryz.prog 135 #[v] w fun e w2=>e= .returned (.int .i64 0)/\Below w.heap.size w w2
 len:Calls Tryz.prog 48 #[v] w fun e w2=>e= .returned (.int .i64 n)/\Below w.heap.size w w2
 num:∀ j,j < n->Calls Tryz.prog 138 #[v,.int .i64 (j:Nat)] w fun e w2=>e= .returned (.float .f64 (F j))/\Below w.heap.size w w2
theorem NumW.of {v:Value}{n:Nat}{F:Nat->Nat}{w:World}{H:Nat->Prop} (h:Keeps H w (NumW v n F)):NumsOf w v n F :=
 ⟨fun _ hb=>(h.step hb).now.cls,fun _ hb=>(h.step hb).now.len,fun _ hb j hj=>(h.step hb).now.num j hj⟩
structure LdS (w0:World) (G:Nat) (k:Int) (b:Value) (bn:Int) (s i f c x:Value) (W:World):Prop where
 box:Boxed W G k b bn s i f c x
 bel:Below w0.heap.size w0 W
 old:G < w0.heap.size
theorem LdS.new {w0:World}{G:Nat}{k:Int}{b:Value}{bn:Int}{s i f c x:Value} (h:Boxed w0 G k b bn s i f c x):LdS w0 G k b bn s i f c x w0:=⟨h,Below.refl _ _,h.lt⟩
theorem LdS.step {w0 W W':World}{G:Nat}{k:Int}{b:Value}{bn:Int}{s i f c x:Value} (h:LdS w0 G k b bn s i f c x W) (hb:Below W.heap.size W W'):LdS w0 G k b bn s i f c x W':=⟨h.box.below hb,bel_both h.bel hb,h.old⟩
theorem LdS.al {w0 W:World}{G:Nat}{k:Int}{b:Value}{bn:Int}{s i f c x:Value} (h:LdS w0 G k b bn s i f c x W) (o:Obj):LdS w0 G k b bn s i f c x (W.alloc o):=h.step (bel1 W o)
theorem LdS.dr {w0 W:World}{G:Nat}{k:Int}{b:Value}{bn:Int}{s i f c x:Value} (h:LdS w0 G k b bn s i f c x W):LdS w0 G k b bn s i f c x W.drew:=h.step (Below.refl _ W).drew
theorem LdS.put {w0 W:World}{G:Nat}{k:Int}{b:Value}{bn:Int}{s i f c x:Value} (h:LdS w0 G k b bn s i f c x W){g j:Nat} (ha:w0.heap.size<=g) (u:Value):LdS w0 G k b bn s i f c x (W.setCell ⟨g,j,none⟩ u) :=
 ⟨h.box.set (by show g≠_;have:=h.old;omega) u,h.bel.setCell (by show _<=g;omega) u,h.old⟩
theorem LdS.put8 {w0 W:World}{G:Nat}{k:Int}{b:Value}{bn:Int}{s i f c x:Value} (h:LdS w0 G k b bn s i f c x W){g:Nat} (ha:w0.heap.size<=g) (a0 a1 a2 a3 a4 a5 a6 a7:Value):LdS w0 G k b bn s i f c x (set8 W g a0 a1 a2 a3 a4 a5 a6 a7) :=
 (((((((h.put ha _).put ha _).put ha _).put ha _).put ha _).put ha _).put ha _).put ha _
theorem LdS.self {w0 W:World}{G:Nat}{k:Int}{b:Value}{bn:Int}{s i f c x:Value} (h:LdS w0 G k b bn s i f c x W):LdS w0 G k b bn s i f c x W:=h
theorem LdS.sz {w0 W:World}{G:Nat}{k:Int}{b:Value}{bn:Int}{s i f c x:Value} (h:LdS w0 G k b bn s i f c x W):w0.heap.size<=W.heap.size:=h.bel.size
theorem lt_al (w1:World) (o:Obj):w1.heap.size < (w1.alloc o).heap.size:=by simp
theorem lt_dr (w1:World) (o:Obj):w1.heap.size < (w1.alloc o).drew.heap.size:=by simp [World.drew]
structure V8 where
 k:Int
 b:Sl
 bn:Int
 s:Sl
 i:Sl
 f:Sl
 c:Sl
 x:Sl
abbrev V8.v (p:V8):Value:=vecW p.k p.b p.bn p.s p.i p.f p.c p.x
abbrev BoxP (W:World) (G:Nat) (p:V8):Prop:=Boxed W G p.k (.slice p.b.1 p.b.2.1 p.b.2.2) p.bn (.slice p.s.1 p.s.2.1 p.s.2.2) (.slice p.i.1 p.i.2.1 p.i.2.2) (.slice p.f.1 p.f.2.1 p.f.2.2) (.slice p.c.1 p.c.2.1 p.c.2.2) (.slice p.x.1 p.x.2.1 p.x.2.2)
abbrev V8.o (p:V8):Obj := .cells #[.int .i64 p.k,.slice p.b.1 p.b.2.1 p.b.2.2,.int .i64 p.bn,.slice p.s.1 p.s.2.1 p.s.2.2,.slice p.i.1 p.i.2.1 p.i.2.2,.slice p.f.1 p.f.2.1 p.f.2.2,.slice p.c.1 p.c.2.1 p.c.2.2,.slice p.x.1 p.x.2.1 p.x.2.2] 57
theorem boxP_new (w:World) (p:V8):BoxP (w.alloc p.o) w.heap.size p:=boxed_new w 57 _ _ _ _ _ _ _ _
structure St2 (w W:World) (p q:V8):Prop where
 one:BoxP W w.heap.size p
 two:BoxP W (w.heap.size+1) q
 res:W.heap[w.heap.size+2]?=some (.cells zcells 57)
 bel:Below w.heap.size w W
theorem St2.step {w W W':World}{p q:V8} (h:St2 w W p q) (hb:Below W.heap.size W W'):St2 w W' p q :=
 ⟨h.one.below hb,h.two.below hb,by rw [hb.block _ (boxed_of h.res).1.lt];exact h.res,bel_both h.bel hb⟩
theorem St2.new (w:World) (p q:V8):St2 w (((w.alloc p.o).alloc q.o).alloc (.cells zcells 57)) p q:=by
 have h1:=boxP_new w p
 have h2:=boxP_new (w.alloc p.o) q
 have h3:=heap_alloc_new ((w.alloc p.o).alloc q.o) (.cells zcells 57)
 have e1:(w.alloc p.o).heap.size=w.heap.size+1:=by simp
 have e2:((w.alloc p.o).alloc q.o).heap.size=w.heap.size+2:=by simp
 rw [e1] at h2
 rw [e2] at h3
 exact ⟨(h1.below (bel1 _ _)).below (bel1 _ _),h2.below (bel1 _ _),h3,bel_both (bel2 w _ _) (bel1 _ _)⟩
theorem St2.al {w W:World}{p q:V8} (h:St2 w W p q) (o:Obj):St2 w (W.alloc o) p q:=h.step (bel1 W o)
theorem St2.dr {w W:World}{p q:V8} (h:St2 w W p q):St2 w W.drew p q:=h.step (Below.refl _ W).drew
theorem St2.put {w W:World}{p q:V8} (h:St2 w W p q){g j:Nat} (ha:w.heap.size+3<=g) (u:Value):St2 w (W.setCell ⟨g,j,none⟩ u) p q :=
 ⟨h.one.set (by show g≠_;omega) u,h.two.set (by show g≠_;omega) u,by rw [Below.heap_setCell _ _ _ _ (by show _≠g;omega)];exact h.res,h.bel.setCell (by show _<=g;omega) u⟩
theorem St2.sz {w W:World}{p q:V8} (h:St2 w W p q):w.heap.size+3<=W.heap.size:=(boxed_of h.res).1.lt
theorem St2.self {w W:World}{p q:V8} (h:St2 w W p q):St2 w W p q:=h
theorem St2.more {w W W':World}{p q:V8} (h:St2 w W p q) (hb:Below (w.heap.size+3) W W'):St2 w W' p q :=
 ⟨h.one.of fun j=>hb.cell (p:=⟨w.heap.size,j,none⟩) (by show w.heap.size < _;omega),h.two.of fun j=>hb.cell (p:=⟨w.heap.size+1,j,none⟩) (by show w.heap.size+1 < _;omega),by rw [hb.block _ (by omega)];exact h.res,h.bel.trans (hb.mono (by omega))⟩
def ixP (m i:Nat):Nat:=if m=1 then 0 else i
end Go.Proofs.YtbakjaliponbbaaGreatDoor
