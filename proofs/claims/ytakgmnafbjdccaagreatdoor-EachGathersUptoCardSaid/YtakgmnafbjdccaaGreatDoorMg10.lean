/- The walk of squeeze.Into, whatever the stores are. The walk of squeeze.Into: into whole numbers, into the same store, into none; Into and Squeeze as they are .. Conditions: as each theorem says. -/
import Derived.Test.YtakgmnafbjdccaaGreatDoorMg09
set_option maxRecDepth 100000
set_option maxHeartbeats 1000000
namespace Go.Proofs.YtakgmnafbjdccaaGreatDoor
open Go Go.RowKit Go.Proofs Fl
noncomputable def fitB (kd:Int) (F:Nat->Nat) (n:Nat):Bool :=
 if kd=1 then (List.range n).all fun j=>isT (F j) else if kd=2 then (List.range n).all fun j=>smallB (F j) else if kd=3 then (List.range n).all fun j=>(wholeP (F j)).isSome else true
def PI (kd:Int) (n:Nat) (F:Nat->Nat) (u:Value) (t:Bool) (W:World):Prop :=
 t=fitB kd F n/\(t=true->NumV u kd n F W)/\(t=false->u=vecV 0 vnil 0 vnil vnil vnil vnil vnil)
def Sub (H:Nat->Prop) (W:World) (P:Value->Bool->World->Prop) (e:Ending) (w':World):Prop :=
 ∃ (k:Int) (b:Sl) (bn:Int) (s i f c x:Sl) (t:Bool),e= .returned (.tuple #[vecW k b bn s i f c x,.bool t])/\Keeps H w' (P (vecW k b bn s i f c x) t)/\Below W.heap.size W w'
theorem NumV.congr {v:Value}{k:Int}{n:Nat}{F F':Nat->Nat}{w:World} (h:NumV v k n F w) (e:∀ j,j < n->F' j=F j):NumV v k n F' w :=
 ⟨h.cls,h.len,fun j hj=>by rw [e j hj];exact h.num j hj,fun hk j hj z hz hz2=>h.wholeI hk j hj z hz (by rw [<- e j hj];exact hz2),h.wholeF,fun hk j hj=>by rw [e j hj];exact h.ints hk j hj,fun j hj=>by rw [e j hj];exact h.tf j hj,h.kind,fun hk=>by obtain ⟨l,s,h1,h2,h3⟩:=h.bitsX hk;exact ⟨l,s,h1,h2,fun j hj=>by rw [e j hj];exact h3 j hj⟩,fun hk=>by obtain ⟨l,s,h1,h2,h3⟩:=h.intsX hk;exact ⟨l,s,h1,h2,fun j hj=>by rw [e j hj];exact h3 j hj⟩,h.shape⟩
theorem all_range {n:Nat}{p:Nat->Bool}:(List.range n).all p=true↔∀ j,j < n->p j=true:=by
 rw [List.all_eq_true]
 exact ⟨fun h j hj=>h j (List.mem_range.2 hj),fun h j hj=>h j (List.mem_range.1 hj)⟩
theorem all_bad {n K:Nat}{p:Nat->Bool} (hK:K < n) (hp:p K=false):(List.range n).all p=false:=by
 cases h:(List.range n).all p with
 | false=>rfl
 | true=>rw [all_range.1 h K hK] at hp;cases hp
theorem flag_tv {b:Nat} (h:isT b=true):flagF (tv b)=b:=by
 unfold isT at h
 rcases of_decide_eq_true h with rfl | rfl
 ·rfl
 ·rfl
theorem Keeps.noVec {H:Nat->Prop}{W:World}{kd:Int}{n:Nat}{F:Nat->Nat} (h:fitB kd F n=false):Keeps H W (PI kd n F (vecW 0 (none,0,0) 0 (none,0,0) (none,0,0) (none,0,0) (none,0,0) (none,0,0)) false) :=
 fun _ _ _=>⟨h.symm,(fun e=>by cases e),fun _=>rfl⟩
theorem intoBits_sub (H:Nat->Prop) (k:Int) (b:Value) (bn:Int) (s i f c x:Value) (n:Nat) (F:Nat->Nat) (w:World) (hH:∀ b,H b->b < w.heap.size) (hn:n<=1000000)
  (hN:∀ W,Below w.heap.size w W->NumV (vecV k b bn s i f c x) k n F W) :
  Calls Tryz.prog 223 #[vecV k b bn s i f c x] w (Sub H w (PI 1 n F)):=by
 have main:∀ K,K<=n->(∀ j,j < K->isT (F j)=true)->(K < n->isT (F K)=false)->Calls Tryz.prog 223 #[vecV k b bn s i f c x] w (Sub H w (PI 1 n F)):=by
  intro K hK hy hno
  refine (intoBits_any k b bn s i f c x n K F w (by omega) hN hK hy hno).mono ?_
  rintro e w' (⟨hKn,g,rfl,hr,hb⟩ | ⟨hKn,rfl,hb⟩)
  ·have hfit:fitB 1 F n=true:=by
    unfold fitB
    rw [if_pos rfl,all_range]
    intro j hj
    exact hy j (by omega)
   refine ⟨1,(some ⟨g,0,none⟩,(n+63) / 64,(n+63) / 64),n,(none,0,0),(none,0,0),(none,0,0),(none,0,0),(none,0,0),true,rfl,?_,hb⟩
   refine (Own1.keepsH hr hH).imp fun W' h2=>⟨hfit.symm,fun _=>?_,fun e=>by cases e⟩
   exact (numV_bits (by omega) ⟨_,rfl,⟨g,0,_,rfl,fun j hj=>reads_cell h2 j hj⟩⟩).congr fun j hj=>(flag_tv (hy j (by omega))).symm
  ·have hfit:fitB 1 F n=false:=by unfold fitB;rw [if_pos rfl];exact all_bad hKn (hno hKn)
   exact ⟨0,(none,0,0),0,(none,0,0),(none,0,0),(none,0,0),(none,0,0),(none,0,0),false,rfl,Keeps.noVec hfit,hb⟩
 rcases first_bad (fun j=>isT (F j)) n with h | ⟨K,h1,h2,h3⟩
 ·exact main n (Nat.le_refl _) h (fun h=>absurd h (Nat.lt_irrefl _))
 ·exact main K (by omega) h3 (fun _=>h2)
theorem fi_zOf {b:Nat}{z:Int} (h:wholeP b=some z):fi (zOf b)=b:=by rw [zOf_of h];exact (wholeP_some h).2.symm
theorem intoSmalls_sub (H:Nat->Prop) (k:Int) (b:Value) (bn:Int) (s i f c x:Value) (n:Nat) (F:Nat->Nat) (w:World) (hH:∀ b,H b->b < w.heap.size) (hn:n<=1000000)
  (hN:∀ W,Below w.heap.size w W->NumV (vecV k b bn s i f c x) k n F W) :
  Calls Tryz.prog 224 #[vecV k b bn s i f c x] w (Sub H w (PI 2 n F)):=by
 have main:∀ K,K<=n->(∀ j,j < K->smallB (F j)=true)->(K < n->smallB (F K)=false)->Calls Tryz.prog 224 #[vecV k b bn s i f c x] w (Sub H w (PI 2 n F)):=by
  intro K hK hy hno
  refine (intoSmalls_any k b bn s i f c x n K F w hn hN hK hy hno).mono ?_
  rintro e w' (⟨hKn,a,n',c',rfl,ho,hb⟩ | ⟨hKn,rfl,hb⟩)
  ·have hfit:fitB 2 F n=true:=by
    unfold fitB
    rw [if_neg (by decide),if_pos rfl,all_range]
    intro j hj
    exact hy j (by omega)
   refine ⟨2,(none,0,0),0,(a,n',c'),(none,0,0),(none,0,0),(none,0,0),(none,0,0),true,rfl,?_,hb⟩
   refine (Own1.keepsH ho hH).imp fun W' h2=>⟨hfit.symm,fun _=>?_,fun e=>by cases e⟩
   refine (numV_small (l:=fun j=>zOf (F j)) ⟨⟨_,rfl,h2⟩,fun j hj=>?_⟩).congr fun j hj=>?_
   ·obtain ⟨z,hz,h3,h4⟩:=smallB_of (hy j (by omega))
    show -128<=zOf (F j)/\zOf (F j)<=127
    rw [zOf_of hz]
    exact ⟨h3,h4⟩
   ·obtain ⟨z,hz,h3,h4⟩:=smallB_of (hy j (by omega))
    exact (fi_zOf hz).symm
  ·have hfit:fitB 2 F n=false:=by unfold fitB;rw [if_neg (by decide),if_pos rfl];exact all_bad hKn (hno hKn)
   exact ⟨0,(none,0,0),0,(none,0,0),(none,0,0),(none,0,0),(none,0,0),(none,0,0),false,rfl,Keeps.noVec hfit,hb⟩
 rcases first_bad (fun j=>smallB (F j)) n with h | ⟨K,h1,h2,h3⟩
 ·exact main n (Nat.le_refl _) h (fun h=>absurd h (Nat.lt_irrefl _))
 ·exact main K (by omega) h3 (fun _=>h2)
theorem into_1 (H:Nat->Prop) (P:Value->Bool->World->Prop) (k:Int) (b:Value) (bn:Int) (s i f c x:Value) (w:World) (hk:k≠1) (hk0:k≠0) (hH:∀ b,H b->b < w.heap.size)
  (hcl:∀ W,Below w.heap.size w W->Calls Tryz.prog 66 #[vecV k b bn s i f c x] W fun e w2=>e= .returned (.int .i64 0)/\Below W.heap.size W w2)
  (hs:∀ W H',Below w.heap.size w W->(∀ b,H' b->b < W.heap.size)->Calls Tryz.prog 223 #[vecV k b bn s i f c x] W (Sub H' W P)) :
  Calls Tryz.prog 183 #[vecV k b bn s i f c x,.int .i64 1] w (Sub H w P):=by
 have HK:=Lib.hid (fun W=>kind_any k b bn s i f c x W)
 have HC:=Lib.hid hcl
 have HI:=Lib.hid (fun (W:World) (hb:Below w.heap.size w W)=>hs W (Hole H w W) hb (Hole.lt hH hb))
 clear hcl hs hH
 have e2:(k==1)=false:=by simpa using hk
 have e0:(k==0)=false:=by simpa using hk0
 go_enter Tryz.func183,Tryz.ntmps183
 go_wp2_with fail
 refine (HK.out _).mono ?_
 rintro e w1 ⟨rfl,hb1⟩
 have HS1:=Lib.hid ((St.new w k b bn s i f c x).step hb1)
 obtain ⟨h0,h1,h2,h3,h4,h5,h6,h7⟩:=HS1.out.box
 clear hb1
 go_wp2_with fail
 refine (HC.out _ HS1.out.bel).mono ?_
 rintro e w2 ⟨rfl,hb2⟩
 have HS2:=Lib.hid (HS1.out.step hb2)
 clear hb2 h0 h1 h2 h3 h4 h5 h6 h7 HS1
 obtain ⟨h0,h1,h2,h3,h4,h5,h6,h7⟩:=HS2.out.box
 go_wp2_with fail
 refine (HK.out _).mono ?_
 rintro e w3 ⟨rfl,hb3⟩
 have HS3:=Lib.hid (HS2.out.step hb3)
 clear hb3 h0 h1 h2 h3 h4 h5 h6 h7 HS2
 obtain ⟨h0,h1,h2,h3,h4,h5,h6,h7⟩:=HS3.out.box
 go_wp2_with fail
 refine (HI.out _ HS3.out.bel).mono ?_
 rintro e w4 ⟨k4,b4,bn4,s4,i4,f4,c4,x4,t,rfl,hk4,hb4⟩
 have HS4:=Lib.hid (HS3.out.step hb4)
 have HKE:=Lib.hid (hk4.sub (H':=fun j=>H j\/j=w.heap.size+1) fun j _ e=>e.imp id fun e=>by have:=HS3.out.sz;omega)
 clear hb4 hk4 h0 h1 h2 h3 h4 h5 h6 h7 HS3
 obtain ⟨⟨h0,h1,h2,h3,h4,h5,h6,h7⟩,hz⟩:=boxed_of HS4.out.res
 go_wp2
 refine bodyPost_ret (v := .tuple #[vecW k4 b4 bn4 s4 i4 f4 c4 x4,.bool t]) ?_ rfl ⟨k4,b4,bn4,s4,i4,f4,c4,x4,t,rfl,(HKE.out.set8 (.inr rfl) _ _ _ _ _ _ _ _).sub (fun _ _ e => .inl e),below_set8 HS4.out.bel (Nat.le_succ _) _ _ _ _ _ _ _ _⟩
 exact ret_vec2 (fn:=Tryz.f183) (p:=4) (u:=5) rfl _ _ (w.heap.size+1) (by rfl) (set8_block HS4.out.res _ _ _ _ _ _ _ _)
theorem into_2 (H:Nat->Prop) (P:Value->Bool->World->Prop) (k:Int) (b:Value) (bn:Int) (s i f c x:Value) (w:World) (hk:k≠2) (hk0:k≠0) (hH:∀ b,H b->b < w.heap.size)
  (hcl:∀ W,Below w.heap.size w W->Calls Tryz.prog 66 #[vecV k b bn s i f c x] W fun e w2=>e= .returned (.int .i64 0)/\Below W.heap.size W w2)
  (hs:∀ W H',Below w.heap.size w W->(∀ b,H' b->b < W.heap.size)->Calls Tryz.prog 224 #[vecV k b bn s i f c x] W (Sub H' W P)) :
  Calls Tryz.prog 183 #[vecV k b bn s i f c x,.int .i64 2] w (Sub H w P):=by
 have HK:=Lib.hid (fun W=>kind_any k b bn s i f c x W)
 have HC:=Lib.hid hcl
 have HI:=Lib.hid (fun (W:World) (hb:Below w.heap.size w W)=>hs W (Hole H w W) hb (Hole.lt hH hb))
 clear hcl hs hH
 have e2:(k==2)=false:=by simpa using hk
 have e0:(k==0)=false:=by simpa using hk0
 go_enter Tryz.func183,Tryz.ntmps183
 go_wp2_with fail
 refine (HK.out _).mono ?_
 rintro e w1 ⟨rfl,hb1⟩
 have HS1:=Lib.hid ((St.new w k b bn s i f c x).step hb1)
 obtain ⟨h0,h1,h2,h3,h4,h5,h6,h7⟩:=HS1.out.box
 clear hb1
 go_wp2_with fail
 refine (HC.out _ HS1.out.bel).mono ?_
 rintro e w2 ⟨rfl,hb2⟩
 have HS2:=Lib.hid (HS1.out.step hb2)
 clear hb2 h0 h1 h2 h3 h4 h5 h6 h7 HS1
 obtain ⟨h0,h1,h2,h3,h4,h5,h6,h7⟩:=HS2.out.box
 go_wp2_with fail
 refine (HK.out _).mono ?_
 rintro e w3 ⟨rfl,hb3⟩
 have HS3:=Lib.hid (HS2.out.step hb3)
 clear hb3 h0 h1 h2 h3 h4 h5 h6 h7 HS2
 obtain ⟨h0,h1,h2,h3,h4,h5,h6,h7⟩:=HS3.out.box
 go_wp2_with fail
 refine (HI.out _ HS3.out.bel).mono ?_
 rintro e w4 ⟨k4,b4,bn4,s4,i4,f4,c4,x4,t,rfl,hk4,hb4⟩
 have HS4:=Lib.hid (HS3.out.step hb4)
 have HKE:=Lib.hid (hk4.sub (H':=fun j=>H j\/j=w.heap.size+1) fun j _ e=>e.imp id fun e=>by have:=HS3.out.sz;omega)
 clear hb4 hk4 h0 h1 h2 h3 h4 h5 h6 h7 HS3
 obtain ⟨⟨h0,h1,h2,h3,h4,h5,h6,h7⟩,hz⟩:=boxed_of HS4.out.res
 go_wp2
 refine bodyPost_ret (v := .tuple #[vecW k4 b4 bn4 s4 i4 f4 c4 x4,.bool t]) ?_ rfl ⟨k4,b4,bn4,s4,i4,f4,c4,x4,t,rfl,(HKE.out.set8 (.inr rfl) _ _ _ _ _ _ _ _).sub (fun _ _ e => .inl e),below_set8 HS4.out.bel (Nat.le_succ _) _ _ _ _ _ _ _ _⟩
 exact ret_vec2 (fn:=Tryz.f183) (p:=4) (u:=5) rfl _ _ (w.heap.size+1) (by rfl) (set8_block HS4.out.res _ _ _ _ _ _ _ _)
theorem into_3 (H:Nat->Prop) (k:Int) (b:Value) (bn:Int) (s i f c x:Value) (n:Nat) (F:Nat->Nat) (w:World) (hk:k≠3) (hn:n<=1000000) (hH:∀ b,H b->b < w.heap.size)
  (hN:∀ W,Below w.heap.size w W->NumV (vecV k b bn s i f c x) k n F W) :
  Calls Tryz.prog 183 #[vecV k b bn s i f c x,.int .i64 3] w (Sub H w (PI 3 n F)):=by
 have hk0:k≠0:=by rcases (hN w (Below.refl _ _)).kind with e | e | e | e <;> omega
 have main:∀ K,K<=n->(∀ j,j < K->∃ z,wholeP (F j)=some z)->(K < n->wholeP (F K)=none)->Calls Tryz.prog 183 #[vecV k b bn s i f c x,.int .i64 3] w (Sub H w (PI 3 n F)):=by
  intro K hK hy hno
  have HFY:Hid (K=n->fitB 3 F n=true):=by
   intro e
   unfold fitB
   rw [if_neg (by decide),if_neg (by decide),if_pos rfl,all_range]
   intro j hj
   obtain ⟨z,hz⟩:=hy j (by omega)
   rw [hz];rfl
  have HFN:Hid (K < n->fitB 3 F n=false):=by
   intro e
   unfold fitB
   rw [if_neg (by decide),if_neg (by decide),if_pos rfl]
   exact all_bad e (by show (wholeP (F K)).isSome=false;rw [hno e];rfl)
  have HYY:=Lib.hid hy
  have HHH:=Lib.hid hH
  have HI:=Lib.hid (fun (W:World) (hb:Below w.heap.size w W)=>sqwholes_any k b bn s i f c x n K F W hn (fun W' hb'=>hN W' (bel_both hb hb')) hK hy hno)
  have HK:=Lib.hid (fun W=>kind_any k b bn s i f c x W)
  have HC:=Lib.hid (fun W hb=>(hN W hb).cls)
  clear hN hy hno hH
  have e2:(k==3)=false:=by simpa using hk
  have e0:(k==0)=false:=by simpa using hk0
  go_enter Tryz.func183,Tryz.ntmps183
  go_wp2_with fail
  refine (HK.out _).mono ?_
  rintro e w1 ⟨rfl,hb1⟩
  have HS1:=Lib.hid ((St.new w k b bn s i f c x).step hb1)
  obtain ⟨h0,h1,h2,h3,h4,h5,h6,h7⟩:=HS1.out.box
  clear hb1
  go_wp2_with fail
  refine (HC.out _ HS1.out.bel).mono ?_
  rintro e w2 ⟨rfl,hb2⟩
  have HS2:=Lib.hid (HS1.out.step hb2)
  clear hb2 h0 h1 h2 h3 h4 h5 h6 h7 HS1
  obtain ⟨h0,h1,h2,h3,h4,h5,h6,h7⟩:=HS2.out.box
  go_wp2_with fail
  refine (HK.out _).mono ?_
  rintro e w3 ⟨rfl,hb3⟩
  have HS3:=Lib.hid (HS2.out.step hb3)
  clear hb3 h0 h1 h2 h3 h4 h5 h6 h7 HS2
  obtain ⟨h0,h1,h2,h3,h4,h5,h6,h7⟩:=HS3.out.box
  go_wp2_with fail
  refine (HI.out _ HS3.out.bel).mono ?_
  rintro e w4 (⟨hKn,g,rfl,ho,hb4⟩ | ⟨hKn,rfl,hb4⟩)
  ·have HS4:=Lib.hid (HS3.out.step hb4)
   have HII:=Lib.hid (ints_any (w:=w4) (l:=(List.range n).map fun j=>zOf (F j)) (by rw [List.map_map];exact ho.reads) (by simpa using hn) (fun y hy=>by
    obtain ⟨j,hj,rfl⟩:=List.mem_map.1 hy
    obtain ⟨z,hz⟩:=HYY.out j (by have:=List.mem_range.1 hj;omega)
    rw [zOf_of hz]
    exact (wholeP_some hz).1))
   have HFI:=Lib.hid (HFY.out hKn)
   have HKN:=Lib.hid hKn
   clear hb4 ho hKn h0 h1 h2 h3 h4 h5 h6 h7 HS3
   go_wp2_with fail
   refine HII.out.mono ?_
   rintro e w5 ⟨u,rfl,hou,hb5⟩
   rw [List.map_map] at hou
   have HS5:=Lib.hid (HS4.out.step hb5)
   have HU:=Lib.hid (hou.lower (show w.heap.size+2<=w4.heap.size from HS4.out.sz))
   obtain ⟨a,n',c',hu⟩:∃ a n c,u= .slice a n c:=by obtain ⟨a,c,e⟩:=hou.reads.len;exact ⟨a,_,c,e⟩
   subst hu
   clear hb5 hou
   have HKE:Hid (Keeps (fun j=>j < w.heap.size+2) w5 (PI 3 n F (vecW 3 (none,0,0) 0 (none,0,0) (a,n',c') (none,0,0) (none,0,0) (none,0,0)) true)) :=
    (HU.out.keeps).imp fun W' h2=>⟨HFI.out.symm,(fun _=>(numV_ints (l:=fun j=>zOf (F j)) ⟨⟨_,rfl,h2⟩,fun j hj=>by
     obtain ⟨z,hz⟩:=HYY.out j (by rw [HKN.out];exact hj)
     show Good (zOf (F j))
     rw [zOf_of hz]
     exact (wholeP_some hz).1⟩).congr fun j hj=>by
      obtain ⟨z,hz⟩:=HYY.out j (by rw [HKN.out];exact hj)
      exact (fi_zOf hz).symm),fun e=>by cases e⟩
   obtain ⟨⟨h0,h1,h2,h3,h4,h5,h6,h7⟩,hz⟩:=boxed_of HS5.out.res
   go_wp2
   refine bodyPost_ret (v := .tuple #[vecV 3 vnil 0 vnil (.slice a n' c') vnil vnil vnil,.bool true]) ?_ rfl ⟨3,(none,0,0),0,(none,0,0),(a,n',c'),(none,0,0),(none,0,0),(none,0,0),true,rfl,(HKE.out.set8 (Nat.lt_succ_self _) _ _ _ _ _ _ _ _).sub (fun j _ e=>by have:=HHH.out j e;show j < w.heap.size+2;omega),below_set8 HS5.out.bel (Nat.le_succ _) _ _ _ _ _ _ _ _⟩
   exact ret_vec2 (fn:=Tryz.f183) (p:=4) (u:=5) rfl _ _ (w.heap.size+1) (by rfl) (set8_block HS5.out.res _ _ _ _ _ _ _ _)
  ·have HS4:=Lib.hid (HS3.out.step hb4)
   have HFI:=Lib.hid (HFN.out hKn)
   clear hb4 hKn h0 h1 h2 h3 h4 h5 h6 h7 HS3
   obtain ⟨⟨h0,h1,h2,h3,h4,h5,h6,h7⟩,hz⟩:=boxed_of HS4.out.res
   go_wp2
   refine bodyPost_ret (v := .tuple #[vecV 0 vnil 0 vnil vnil vnil vnil vnil,.bool false]) ?_ rfl ⟨0,(none,0,0),0,(none,0,0),(none,0,0),(none,0,0),(none,0,0),(none,0,0),false,rfl,Keeps.noVec HFI.out,below_set8 HS4.out.bel (Nat.le_succ _) _ _ _ _ _ _ _ _⟩
   exact ret_vec2 (fn:=Tryz.f183) (p:=4) (u:=5) rfl _ _ (w.heap.size+1) (by rfl) (set8_block HS4.out.res _ _ _ _ _ _ _ _)
 rcases first_bad (fun j=>(wholeP (F j)).isSome) n with h | ⟨K,h1,h2,h3⟩
 ·exact main n (Nat.le_refl _) (fun j hj=>Option.isSome_iff_exists.1 (h j hj)) (fun h=>absurd h (Nat.lt_irrefl _))
 ·exact main K (by omega) (fun j hj=>Option.isSome_iff_exists.1 (h3 j hj)) (fun _=>by
   cases hw:wholeP (F K) with
   | none=>rfl
   | some z=>rw [hw] at h2;cases h2)
theorem into_same (H:Nat->Prop) (P:Value->Bool->World->Prop) (k:Int) (b:Sl) (bn:Int) (s i f c x:Sl) (w:World)
  (hP:Keeps H w (P (vecW k b bn s i f c x) true)) :
  Calls Tryz.prog 183 #[vecW k b bn s i f c x,.int .i64 k] w (Sub H w P):=by
 have HK:=Lib.hid (fun W=>kind_any k (.slice b.1 b.2.1 b.2.2) bn (.slice s.1 s.2.1 s.2.2) (.slice i.1 i.2.1 i.2.2) (.slice f.1 f.2.1 f.2.2) (.slice c.1 c.2.1 c.2.2) (.slice x.1 x.2.1 x.2.2) W)
 have HKP:=Lib.hid (fun W (hb:Below w.heap.size w W)=>hP.arg hb)
 have ek:(k==k)=true:=by simp
 have HS0:=Lib.hid (St.new w k (.slice b.1 b.2.1 b.2.2) bn (.slice s.1 s.2.1 s.2.2) (.slice i.1 i.2.1 i.2.2) (.slice f.1 f.2.1 f.2.2) (.slice c.1 c.2.1 c.2.2) (.slice x.1 x.2.1 x.2.2))
 clear hP
 go_enter Tryz.func183,Tryz.ntmps183
 go_wp2_with fail
 refine (HK.out _).mono ?_
 rintro e w1 ⟨rfl,hb1⟩
 have HS1:=Lib.hid (HS0.out.step hb1)
 have HKE:=Lib.hid (HKP.out _ HS1.out.bel)
 clear hb1
 obtain ⟨h0,h1,h2,h3,h4,h5,h6,h7⟩:=HS1.out.box
 obtain ⟨⟨g0,g1,g2,g3,g4,g5,g6,g7⟩,gz⟩:=boxed_of HS1.out.res
 have HSZ:=Lib.hid HS1.out.sz
 go_wp2
 refine bodyPost_ret (v := .tuple #[vecW k b bn s i f c x,.bool true]) ?_ rfl ⟨k,b,bn,s,i,f,c,x,true,rfl,(HKE.out.set8 (.inr ⟨Nat.le_succ _,HSZ.out⟩) _ _ _ _ _ _ _ _).sub (fun _ _ e => .inl e),below_set8 HS1.out.bel (Nat.le_succ _) _ _ _ _ _ _ _ _⟩
 exact ret_vec2 (fn:=Tryz.f183) (p:=4) (u:=5) rfl _ _ (w.heap.size+1) (by rfl) (set8_block HS1.out.res _ _ _ _ _ _ _ _)
theorem rank1 {b:Nat} (h:rankF b<=1):isT b=true:=by
 unfold rankF at h
 split at h
 ·rename_i z e
  have hb:=(wholeP_some e).2
  have hz:z=0\/z=1:=by
   unfold rankS at h
   split at h
   ·assumption
   ·split at h <;> omega
  unfold isT
  rw [decide_eq_true_eq]
  rcases hz with rfl | rfl
  ·left;rw [hb,fi_zero]
  ·right;rw [hb,fi_one]
 ·omega
theorem rank2 {b:Nat} (h:rankF b<=2):smallB b=true:=by
 unfold rankF at h
 unfold smallB
 split at h
 ·rename_i z e
  try rw [e]
  show decide _=true
  rw [decide_eq_true_eq]
  unfold rankS at h
  split at h
  ·omega
  ·split at h
   ·assumption
   ·omega
 ·omega
theorem rank3 {b:Nat} (h:rankF b<=3):(wholeP b).isSome=true:=by
 unfold rankF at h
 split at h
 ·rename_i z e;rw [e];rfl
 ·omega
theorem fit_least (F:Nat->Nat) (n:Nat):fitB (leastF F n:Nat) F n=true:=by
 have hle:=leastF_le F n
 have hr:∀ j,j < n->rankF (F j)<=leastF F n:=fun j hj=>leastF_rank F hj
 unfold fitB
 rcases (by omega:leastF F n=1\/leastF F n=2\/leastF F n=3\/leastF F n=4) with e | e | e | e
 ·rw [show ((leastF F n:Nat):Int)=1 by omega,if_pos rfl,all_range];exact fun j hj=>rank1 (by have:=hr j hj;omega)
 ·rw [show ((leastF F n:Nat):Int)=2 by omega,if_neg (by decide),if_pos rfl,all_range];exact fun j hj=>rank2 (by have:=hr j hj;omega)
 ·rw [show ((leastF F n:Nat):Int)=3 by omega,if_neg (by decide),if_neg (by decide),if_pos rfl,all_range];exact fun j hj=>rank3 (by have:=hr j hj;omega)
 ·rw [show ((leastF F n:Nat):Int)=4 by omega,if_neg (by decide),if_neg (by decide),if_neg (by decide)]
theorem into_num (H:Nat->Prop) (kd k:Int) (b:Sl) (bn:Int) (s i f c x:Sl) (n:Nat) (F:Nat->Nat) (w:World) (hH:∀ b,H b->b < w.heap.size) (hn:n<=1000000)
  (hv:Keeps H w (NumV (vecW k b bn s i f c x) k n F)) (hkd:kd=1\/kd=2\/kd=3\/(kd=4/\k=4)) (hf:kd=k->fitB kd F n=true) :
  Calls Tryz.prog 183 #[vecW k b bn s i f c x,.int .i64 kd] w (Sub H w (PI kd n F)):=by
 have hN:∀ W,Below w.heap.size w W->NumV (vecW k b bn s i f c x) k n F W:=fun W hb=>(hv.step hb).now
 have hkind:=(hN w (Below.refl _ _)).kind
 by_cases e:kd=k
 ·subst e
  exact into_same H _ kd b bn s i f c x w (hv.imp fun W h=>⟨(hf rfl).symm,fun _=>h,fun e=>by cases e⟩)
 ·rcases hkd with rfl | rfl | rfl | ⟨rfl,rfl⟩
  ·exact into_1 H _ k _ bn _ _ _ _ _ w (fun h=>e h.symm) (by omega) hH (fun W hb=>(hN W hb).cls) fun W H' hb hH'=>intoBits_sub H' k _ bn _ _ _ _ _ n F W hH' hn fun W' hb'=>hN W' (bel_both hb hb')
  ·exact into_2 H _ k _ bn _ _ _ _ _ w (fun h=>e h.symm) (by omega) hH (fun W hb=>(hN W hb).cls) fun W H' hb hH'=>intoSmalls_sub H' k _ bn _ _ _ _ _ n F W hH' hn fun W' hb'=>hN W' (bel_both hb hb')
  ·exact into_3 H k _ bn _ _ _ _ _ n F w (fun h=>e h.symm) hn hH hN
  ·exact absurd rfl e
theorem sub_intoR {H:Nat->Prop}{w W:World}{kd:Int}{n:Nat}{F:Nat->Nat} (hf:fitB kd F n=true) (e:Ending) (w':World) (h:Sub (Hole H w W) W (PI kd n F) e w'):IntoR H w W (fun u W'=>NumV u kd n F W') e w':=by
 obtain ⟨k,b,bn,s,i,f,c,x,t,rfl,hk,hb⟩:=h
 have ht:t=true:=by rw [hk.now.1,hf]
 subst ht
 exact ⟨k,b,bn,s,i,f,c,x,rfl,hk.imp fun W' h=>h.2.1 rfl,hb⟩
theorem squeeze_num (H:Nat->Prop) (k:Int) (b:Sl) (bn:Int) (s i f c x:Sl) (n:Nat) (F:Nat->Nat) (w:World) (hH:∀ b,H b->b < w.heap.size) (hn:n<=1000000)
  (hv:Keeps H w (NumV (vecW k b bn s i f c x) k n F)) :
  Calls Tryz.prog 113 #[vecW k b bn s i f c x] w (VecR H w (fun u W=>NumV u (leastF F n:Nat) n F W)):=by
 have hN:∀ W,Below w.heap.size w W->NumV (vecW k b bn s i f c x) k n F W:=fun W hb=>(hv.step hb).now
 have hkind:=(hN w (Below.refl _ _)).kind
 have hle:=leastF_le F n
 refine squeeze_any H _ (leastF F n:Nat) k _ bn _ _ _ _ _ w (fun W hb=>?_) (fun W hb=>?_)
 ·rcases hkind with e | e | e | e
  ·exact least_whole k (.inl e) _ bn _ _ _ _ _ n F W (by omega) fun W' hb'=>hN W' (bel_both hb hb')
  ·exact least_whole k (.inr (.inl e)) _ bn _ _ _ _ _ n F W (by omega) fun W' hb'=>hN W' (bel_both hb hb')
  ·exact least_whole k (.inr (.inr e)) _ bn _ _ _ _ _ n F W (by omega) fun W' hb'=>hN W' (bel_both hb hb')
  ·subst e
   exact least_float _ bn _ _ _ _ _ n F W (by omega) fun W' hb'=>hN W' (bel_both hb hb')
 ·refine (into_num (Hole H w W) (leastF F n:Nat) k b bn s i f c x n F W (Hole.lt hH hb) hn (hv.arg hb) ?_ (fun _=>fit_least F n)).mono (sub_intoR (fit_least F n))
  rcases (by omega:leastF F n=1\/leastF F n=2\/leastF F n=3\/leastF F n=4) with e | e | e | e
  ·left;omega
  ·right;left;omega
  ·right;right;left;omega
  ·right;right;right
   refine ⟨by omega,?_⟩
   rcases hkind with e2 | e2 | e2 | e2
   ·have:=leastF_ints F n ((hN w (Below.refl _ _)).ints (by omega));omega
   ·have:=leastF_ints F n ((hN w (Below.refl _ _)).ints (by omega));omega
   ·have:=leastF_ints F n ((hN w (Below.refl _ _)).ints (by omega));omega
   ·exact e2
end Go.Proofs.YtakgmnafbjdccaaGreatDoor
