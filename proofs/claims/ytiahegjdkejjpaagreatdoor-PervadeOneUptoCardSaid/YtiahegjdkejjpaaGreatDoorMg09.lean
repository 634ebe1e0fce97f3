/- The walks of squeeze.whole, squeeze.intoSmalls and squeeze.wholes, both outcomes. The walk of squeeze.Into, whatever the stores are. The walk of squeeze.Into: .. Conditions: as each theorem says. -/
import Derived.Test.YtiahegjdkejjpaaGreatDoorMg08
set_option maxRecDepth 100000
set_option maxHeartbeats 2000000
namespace Go.Proofs.YtiahegjdkejjpaaGreatDoor
open Go Go.RowKit Go.Proofs Fl
def SqW (b:Nat) (w:World) (e:Ending) (w':World):Prop :=
 ((∃ z,wholeP b=some z/\e= .returned (.tuple #[.int .i64 z,.bool true]))\/(wholeP b=none/\∃ m:Int,e= .returned (.tuple #[.int .i64 m,.bool false])))/\Below w.heap.size w w'
theorem sqwhole_int (k:Int) (hk:k≠4) (b:Value) (bn:Int) (s i f c x:Value) (n:Nat) (F:Nat->Nat) (w:World)
  (hN:∀ W,Below w.heap.size w W->NumV (vecV k b bn s i f c x) k n F W) (j:Nat) (hj:j < n) :
  Calls Tryz.prog 288 #[vecV k b bn s i f c x,.int .i64 (j:Int)] w (SqW (F j) w):=by
 obtain ⟨z,hz,e⟩:=(hN w (Below.refl _ _)).ints hk j hj
 have HV:=Lib.hid ((hN _ (bel1 w (.cells #[.int .i64 k,b,.int .i64 bn,s,i,f,c,x] 37))).wholeI hk j hj z hz e)
 have HW:Hid (wholeP (F j)=some z):=by show _=_;rw [e];exact wholeP_fi hz
 clear hN e
 go_enter Tryz.func288,Tryz.ntmps288
 go_wp2_with fail
 refine HV.out.mono ?_
 rintro e w1 ⟨rfl,hb1⟩
 have HB1:=Lib.hid (bel_both (bel1 w _) hb1)
 clear hb1
 go_wp2
 go_ret2
 exact ⟨.inl ⟨z,HW.out,rfl⟩,HB1.out⟩
theorem sqwhole_float (b:Value) (bn:Int) (s i f c x:Value) (n:Nat) (F:Nat->Nat) (w:World)
  (hN:∀ W,Below w.heap.size w W->NumV (vecV 4 b bn s i f c x) 4 n F W) (j:Nat) (hj:j < n) :
  Calls Tryz.prog 288 #[vecV 4 b bn s i f c x,.int .i64 (j:Int)] w (SqW (F j) w):=by
 have HN:=Lib.hid hN
 have HV:=Lib.hid ((hN _ (bel1 w (.cells #[.int .i64 4,b,.int .i64 bn,s,i,f,c,x] 37))).wholeF rfl j hj)
 have HTF:=Lib.hid ((hN w (Below.refl _ _)).tf j hj)
 clear hN
 go_enter Tryz.func288,Tryz.ntmps288
 go_wp2_with fail
 refine HV.out.mono ?_
 rintro e w1 ⟨rfl,hb1⟩
 have HB1:=Lib.hid (bel_both (bel1 w _) hb1)
 obtain ⟨h0,h1,h2,h3,h4,h5,h6,h7⟩:=(boxed_new w 37 4 b bn s i f c x).below hb1
 clear hb1
 go_wp2_with fail
 refine ((HN.out _ HB1.out).num j hj).mono ?_
 rintro e w2 ⟨rfl,hb2⟩
 have HB2:=Lib.hid (bel_both HB1.out hb2)
 clear hb2 h0 h1 h2 h3 h4 h5 h6 h7
 rcases whole_cases HTF.out with ⟨z,hz,e,hwz⟩ | ⟨hno,t,Z,hZ,e,hnw⟩
 ·have HZ:=Lib.hid (fun W=>nwhole_fi z hz W)
  have HWZ:=Lib.hid hwz
  rw [<- e] at HZ
  clear e hz hwz
  generalize F j=y at *
  go_wp2_with fail
  refine (HZ.out _).mono ?_
  rintro e w3 ⟨rfl,rfl⟩
  go_wp2
  go_ret2
  exact ⟨.inl ⟨z,HWZ.out,rfl⟩,HB2.out⟩
 ·have HZ:=Lib.hid (fun W=>nwhole_no t hZ hnw W)
  have HWZ:=Lib.hid hno
  rw [<- e] at HZ
  clear e hZ hno hnw
  generalize F j=y at *
  go_wp2_with fail
  refine (HZ.out _).mono ?_
  rintro e w3 ⟨⟨m,rfl⟩,rfl⟩
  go_wp2
  go_ret2
  exact ⟨.inr ⟨HWZ.out,m,rfl⟩,HB2.out⟩
theorem sqwhole_any (k:Int) (b:Value) (bn:Int) (s i f c x:Value) (n:Nat) (F:Nat->Nat) (w:World)
  (hN:∀ W,Below w.heap.size w W->NumV (vecV k b bn s i f c x) k n F W) (j:Nat) (hj:j < n) :
  Calls Tryz.prog 288 #[vecV k b bn s i f c x,.int .i64 (j:Int)] w (SqW (F j) w):=by
 by_cases hk:k=4
 ·subst hk;exact sqwhole_float b bn s i f c x n F w hN j hj
 ·exact sqwhole_int k hk b bn s i f c x n F w hN j hj
noncomputable def zOf (b:Nat):Int:=(wholeP b).getD 0
theorem zOf_of {b:Nat}{z:Int} (h:wholeP b=some z):zOf b=z:=by unfold zOf;rw [h];rfl
noncomputable def smallB (b:Nat):Bool:=match wholeP b with
 | some z=>decide (-128<=z/\z<=127)
 | none=>false
theorem smallB_of {b:Nat} (h:smallB b=true):∃ z,wholeP b=some z/\-128<=z/\z<=127:=by
 unfold smallB at h
 split at h
 ·rename_i z e;exact ⟨z,e,of_decide_eq_true h⟩
 ·cases h
def YesSmall (n:Nat) (F:Nat->Nat) (w:World) (e:Ending) (w':World):Prop :=
 ∃ a n' c',e= .returned (.tuple #[vecV 2 vnil 0 (.slice a n' c') vnil vnil vnil vnil,.bool true])/\Own1 w' w.heap.size 219 (.slice a n' c') ((List.range n).map fun j => .int .i8 (zOf (F j)))/\Below w.heap.size w w'
def SmallOut (n K:Nat) (F:Nat->Nat) (w:World) (e:Ending) (w':World):Prop:=(K=n/\YesSmall n F w e w')\/(K < n/\NoVec w e w')
theorem intoSmalls_any (k:Int) (b:Value) (bn:Int) (s i f c x:Value) (n K:Nat) (F:Nat->Nat) (w:World) (hn:n<=1000000)
  (hN:∀ W,Below w.heap.size w W->NumV (vecV k b bn s i f c x) k n F W) (hK:K<=n) (hyes:∀ j,j < K->smallB (F j)=true) (hno:K < n->smallB (F K)=false) :
  Calls Tryz.prog 257 #[vecV k b bn s i f c x] w (SmallOut n K F w):=by
 have HN:=Lib.hid hN
 have HY:=Lib.hid hyes
 have HNO:=Lib.hid hno
 have hmk:=run_make_row' (P:=Tryz.prog) 31 219 (.int .i8 0) 1 Tryz.underlying31 info_i8 rfl .i64 .i64 n (by omega) (by omega)
 clear hN hyes hno
 go_enter Tryz.func257,Tryz.ntmps257
 go_wp2_with fail
 refine (HN.out _ (bel2 w _ _)).len.mono ?_
 rintro e w1 ⟨rfl,hb1⟩
 have HS1:=Lib.hid ((St.new w k b bn s i f c x).step hb1)
 clear hb1
 have HGN:Hid (w.heap.size+2<=w1.heap.size):=HS1.out.sz
 have HF0:=Lib.hid (Fill.made w1 (w.heap.size+2) HS1.out.sz 219 (fun j => .int .i8 (zOf (F j))) (.int .i8 0) n (by unfold maxLen;omega))
 have HSM:=Lib.hid (HS1.out.al (.cells (madeCells #[.int .i8 0] n) 219))
 go_wp2_with fail
 go_loopw [13] (fun j wr=>∃ m:Nat,m<=K/\j= .int .i64 m/\Fill wr (w.heap.size+2) w1.heap.size 219 (fun j => .int .i8 (zOf (F j))) (.int .i8 0) n m/\St w wr k b bn s i f c x) (fun j _=>n - (intOf j).toNat)
 case atStart=>exact ⟨0,Nat.zero_le _,rfl,HF0.out,HSM.out⟩
 case round =>
  clear hmk HF0 HSM HS1
  obtain ⟨m,hm,rfl,hf,hst⟩:=hrel
  have HF:=Lib.hid hf
  have HST:=Lib.hid hst
  clear hf hst
  by_cases hlt:m < n
  ·obtain ⟨h0,h1,h2,h3,h4,h5,h6,h7⟩:=HST.out.box
   have hlt2:(m:Int) < (n:Int):=by omega
   have HWH:=Lib.hid (sqwhole_any k b bn s i f c x n F wr (fun W hb=>HN.out W (bel_both HST.out.bel hb)) m hlt)
   go_wp2_with fail
   refine HWH.out.mono ?_
   rintro e w3 ⟨hres,hb3⟩
   have HS3:=Lib.hid (HST.out.step hb3)
   have HF3:=Lib.hid (HF.out.below hb3)
   clear hb3 h0 h1 h2 h3 h4 h5 h6 h7
   by_cases hmK:m < K
   ·obtain ⟨z,hwz,hz1,hz2⟩:=smallB_of (HY.out m hmK)
    have hez:zOf (F m)=z:=zOf_of hwz
    have HP3:=Lib.hid (HF3.out.put hlt)
    have HS3':=Lib.hid (HS3.out.put (g:=w1.heap.size) (j:=m) HGN.out (.int .i8 (zOf (F m))))
    have hc3:=HF3.out.cell hlt
    have hz3:=HF3.out.frozen m
    rw [hez] at HP3 HS3'
    rcases hres with ⟨z',e1,rfl⟩ | ⟨e1,_⟩
    ·rw [hwz] at e1
     injection e1 with e1
     subst e1
     clear hwz hez
     go_wp2
     go_roundw
     case rel=>exact ⟨m+1,by omega,by go_num,HP3.out,HS3'.out⟩
     case measure=>simp [intOf];omega
    ·rw [hwz] at e1;cases e1
   ·obtain rfl:m=K:=by omega
    have hbad:=HNO.out hlt
    obtain ⟨⟨h0,h1,h2,h3,h4,h5,h6,h7⟩,hz⟩:=boxed_of HS3.out.res
    rcases hres with ⟨z',e1,rfl⟩ | ⟨e1,mm,rfl⟩
    ·have hout:¬ (-128<=z'/\z'<=127):=by
      intro hh
      unfold smallB at hbad
      rw [e1] at hbad
      have hb2:decide (-128<=z'/\z'<=127)=false:=hbad
      rw [decide_eq_true hh] at hb2
      cases hb2
     clear e1 hbad
     by_cases hlow:z' < -128
     ·go_wp2
      refine bodyPost_ret (v := .tuple #[vecV 0 vnil 0 vnil vnil vnil vnil vnil,.bool false]) ?_ rfl (.inr ⟨hlt,rfl,below_set8 HS3.out.bel (Nat.le_succ _) _ _ _ _ _ _ _ _⟩)
      exact ret_vec2 (fn:=Tryz.f257) (p:=2) (u:=3) rfl _ _ (w.heap.size+1) (by rfl) (set8_block HS3.out.res _ _ _ _ _ _ _ _)
     ·have hhigh:127 < z':=by omega
      clear hout
      go_wp2
      refine bodyPost_ret (v := .tuple #[vecV 0 vnil 0 vnil vnil vnil vnil vnil,.bool false]) ?_ rfl (.inr ⟨hlt,rfl,below_set8 HS3.out.bel (Nat.le_succ _) _ _ _ _ _ _ _ _⟩)
      exact ret_vec2 (fn:=Tryz.f257) (p:=2) (u:=3) rfl _ _ (w.heap.size+1) (by rfl) (set8_block HS3.out.res _ _ _ _ _ _ _ _)
    ·clear e1 hbad
     go_wp2
     refine bodyPost_ret (v := .tuple #[vecV 0 vnil 0 vnil vnil vnil vnil vnil,.bool false]) ?_ rfl (.inr ⟨hlt,rfl,below_set8 HS3.out.bel (Nat.le_succ _) _ _ _ _ _ _ _ _⟩)
     exact ret_vec2 (fn:=Tryz.f257) (p:=2) (u:=3) rfl _ _ (w.heap.size+1) (by rfl) (set8_block HS3.out.res _ _ _ _ _ _ _ _)
  ·obtain rfl:m=n:=by omega
   obtain rfl:K=m:=by omega
   have HSS:=Lib.hid (smalls_any (w:=wr) (l:=(List.range K).map fun j=>zOf (F j)) (v := .slice (some ⟨w1.heap.size,0,none⟩) K K) (by rw [List.map_map];exact HF.out.own.reads) (by simp;omega))
   go_wp2_with fail
   refine HSS.out.mono ?_
   rintro e w4 ⟨u,rfl,ho,hb4⟩
   have HS4:=Lib.hid (HST.out.step hb4)
   have HO:=Lib.hid (ho.lower (show w.heap.size+2<=wr.heap.size from HST.out.sz))
   rw [List.map_map] at HO
   obtain ⟨a,n',c',hu⟩:∃ a n c,u= .slice a n c:=by obtain ⟨a,c,e⟩:=ho.reads.len;exact ⟨a,_,c,e⟩
   subst hu
   have HNE:Hid ((Value.slice a n' c').ownBlock≠some (w.heap.size+1)):=fun e=>by have:=(World.ownsRow.lt HO.out _ e).1;omega
   clear hb4 ho
   obtain ⟨⟨h0,h1,h2,h3,h4,h5,h6,h7⟩,hz⟩:=boxed_of HS4.out.res
   go_wp2
   refine bodyPost_ret (v := .tuple #[vecV 2 vnil 0 (.slice a n' c') vnil vnil vnil vnil,.bool true]) ?_ rfl (.inl ⟨rfl,a,n',c',rfl,own_set8 (HO.out.lower (by omega)) HNE.out _ _ _ _ _ _ _ _,below_set8 HS4.out.bel (Nat.le_succ _) _ _ _ _ _ _ _ _⟩)
   exact ret_vec2 (fn:=Tryz.f257) (p:=2) (u:=3) rfl _ _ (w.heap.size+1) (by rfl) (set8_block HS4.out.res _ _ _ _ _ _ _ _)
def WhsOut (n K:Nat) (F:Nat->Nat) (w:World) (e:Ending) (w':World):Prop :=
 (K=n/\∃ g,e= .returned (.tuple #[.slice (some ⟨g,0,none⟩) n n,.bool true])/\Own1 w' w.heap.size 2 (.slice (some ⟨g,0,none⟩) n n) ((List.range n).map fun j => .int .i64 (zOf (F j)))/\Below w.heap.size w w') \/
 (K < n/\e= .returned (.tuple #[.slice none 0 0,.bool false])/\Below w.heap.size w w')
theorem sqwholes_any (k:Int) (b:Value) (bn:Int) (s i f c x:Value) (n K:Nat) (F:Nat->Nat) (w:World) (hn:n<=1000000)
  (hN:∀ W,Below w.heap.size w W->NumV (vecV k b bn s i f c x) k n F W) (hK:K<=n) (hyes:∀ j,j < K->∃ z,wholeP (F j)=some z) (hno:K < n->wholeP (F K)=none) :
  Calls Tryz.prog 258 #[vecV k b bn s i f c x] w (WhsOut n K F w):=by
 have HN:=Lib.hid hN
 have HY:=Lib.hid hyes
 have HNO:=Lib.hid hno
 have hmk:=run_make_row' (P:=Tryz.prog) 32 2 (.int .i64 0) 8 Tryz.underlying32 info_i64 rfl .i64 .i64 n (by omega) (by omega)
 clear hN hyes hno
 go_enter Tryz.func258,Tryz.ntmps258
 go_wp2_with fail
 refine (HN.out _ (bel1 w _)).len.mono ?_
 rintro e w1 ⟨rfl,hb1⟩
 have HX1:=Lib.hid ((boxed_new w 37 k b bn s i f c x).below hb1)
 have HB1:=Lib.hid (bel_both (bel1 w _) hb1)
 clear hb1
 have HGN:Hid (w.heap.size+1<=w1.heap.size):=HX1.out.lt
 have HF0:=Lib.hid (Fill.made w1 w.heap.size HB1.out.size 2 (fun j => .int .i64 (zOf (F j))) (.int .i64 0) n (by unfold maxLen;omega))
 have HBM:=Lib.hid (HB1.out.alloc HB1.out.size (.cells (madeCells #[.int .i64 0] n) 2))
 have HXM:=Lib.hid (HX1.out.below (bel1 w1 (.cells (madeCells #[.int .i64 0] n) 2)))
 go_wp2_with fail
 go_loopw [13] (fun j wr=>∃ m:Nat,m<=K/\j= .int .i64 m/\Fill wr w.heap.size w1.heap.size 2 (fun j => .int .i64 (zOf (F j))) (.int .i64 0) n m/\Below w.heap.size w wr/\Boxed wr w.heap.size k b bn s i f c x) (fun j _=>n - (intOf j).toNat)
 case atStart=>exact ⟨0,Nat.zero_le _,rfl,HF0.out,HBM.out,HXM.out⟩
 case round =>
  clear hmk HF0 HBM HXM HB1 HX1
  obtain ⟨m,hm,rfl,hf,hbl,hx⟩:=hrel
  have HF:=Lib.hid hf
  have HBL:=Lib.hid hbl
  have HX:=Lib.hid hx
  clear hf hbl
  by_cases hlt:m < n
  ·obtain ⟨h0,h1,h2,h3,h4,h5,h6,h7⟩:=hx
   have hlt2:(m:Int) < (n:Int):=by omega
   have HWH:=Lib.hid (sqwhole_any k b bn s i f c x n F wr (fun W hb=>HN.out W (bel_both HBL.out hb)) m hlt)
   go_wp2_with fail
   refine HWH.out.mono ?_
   rintro e w3 ⟨hres,hb3⟩
   have HB3:=Lib.hid (bel_both HBL.out hb3)
   have HX3:=Lib.hid (HX.out.below hb3)
   have HF3:=Lib.hid (HF.out.below hb3)
   clear hb3 h0 h1 h2 h3 h4 h5 h6 h7
   by_cases hmK:m < K
   ·obtain ⟨z,hwz⟩:=HY.out m hmK
    have hez:zOf (F m)=z:=zOf_of hwz
    have HP3:=Lib.hid (HF3.out.put hlt)
    have HB4:=Lib.hid (HF3.out.bel HB3.out m (.int .i64 (zOf (F m))))
    have HX4:=Lib.hid (HX3.out.set (p:=⟨w1.heap.size,m,none⟩) (by have:=HGN.out;show w1.heap.size≠w.heap.size;omega) (.int .i64 (zOf (F m))))
    have hc3:=HF3.out.cell hlt
    have hz3:=HF3.out.frozen m
    rw [hez] at HP3 HB4 HX4
    rcases hres with ⟨z',e1,rfl⟩ | ⟨e1,_⟩
    ·rw [hwz] at e1
     injection e1 with e1
     subst e1
     clear hwz hez
     go_wp2
     go_roundw
     case rel=>exact ⟨m+1,by omega,by go_num,HP3.out,HB4.out,HX4.out⟩
     case measure=>simp [intOf];omega
    ·rw [hwz] at e1;cases e1
   ·obtain rfl:m=K:=by omega
    have hbad:=HNO.out hlt
    rcases hres with ⟨z',e1,rfl⟩ | ⟨e1,mm,rfl⟩
    ·rw [hbad] at e1;cases e1
    ·clear e1 hbad
     go_wp2
     go_ret2
     exact .inr ⟨hlt,rfl,HB3.out⟩
  ·obtain rfl:m=n:=by omega
   obtain rfl:K=m:=by omega
   clear hx
   go_wp2
   go_ret2
   exact .inl ⟨rfl,_,rfl,HF.out.own,HBL.out⟩
noncomputable def fitB (kd:Int) (F:Nat->Nat) (n:Nat):Bool :=
 if kd=1 then (List.range n).all fun j=>isT (F j) else if kd=2 then (List.range n).all fun j=>smallB (F j) else if kd=3 then (List.range n).all fun j=>(wholeP (F j)).isSome else true
def PI (kd:Int) (n:Nat) (F:Nat->Nat) (u:Value) (t:Bool) (W:World):Prop :=
 t=fitB kd F n/\(t=true->NumV u kd n F W)/\(t=false->u=vecV 0 vnil 0 vnil vnil vnil vnil vnil)
def Sub (H:Nat->Prop) (W:World) (P:Value->Bool->World->Prop) (e:Ending) (w':World):Prop :=
 ∃ (k:Int) (b:Sl) (bn:Int) (s i f c x:Sl) (t:Bool),e= .returned (.tuple #[vecW k b bn s i f c x,.bool t])/\Keeps H w' (P (vecW k b bn s i f c x) t)/\Below W.heap.size W w'
theorem NumV.congr {v:Value}{k:Int}{n:Nat}{F F':Nat->Nat}{w:World} (h:NumV v k n F w) (e:∀ j,j < n->F' j=F j):NumV v k n F' w :=
 ⟨h.cls,h.len,fun j hj=>by rw [e j hj];exact h.num j hj,fun hk j hj z hz hz2=>h.wholeI hk j hj z hz (by rw [<- e j hj];exact hz2),h.wholeF,fun hk j hj=>by rw [e j hj];exact h.ints hk j hj,fun j hj=>by rw [e j hj];exact h.tf j hj,h.kind,fun hk=>by obtain ⟨l,s,h1,h2,h3⟩:=h.bitsX hk;exact ⟨l,s,h1,h2,fun j hj=>by rw [e j hj];exact h3 j hj⟩,fun hk=>by obtain ⟨l,s,h1,h2,h3⟩:=h.intsX hk;exact ⟨l,s,h1,h2,fun j hj=>by rw [e j hj];exact h3 j hj⟩,h.shape⟩
theorem all_range {n:Nat}{p:Nat->Bool}:(List.range n).all p=true↔∀ j,j < n->p j=true:=by
 rw [List.all_eq_true]
 exact ⟨fun h j hj=>h j (List.mem_range.2 hj),fun h j hj=>h j (List.mem_range.1 hj)⟩
theorem all_bad {n K:Nat}{p:Nat->Bool} (hK:K < n) (hp:p K=false):(List.range n).all p=false:=by
 cases h:(List.range n).all p with
 | false=>rfl
 | true=>rw [all_range.1 h K hK] at hp;cases hp
theorem flag_tv {b:Nat} (h:isT b=true):flagF (tv b)=b:=by
 unfold isT at h
 rcases of_decide_eq_true h with rfl | rfl
 ·rfl
 ·rfl
theorem Keeps.noVec {H:Nat->Prop}{W:World}{kd:Int}{n:Nat}{F:Nat->Nat} (h:fitB kd F n=false):Keeps H W (PI kd n F (vecW 0 (none,0,0) 0 (none,0,0) (none,0,0) (none,0,0) (none,0,0) (none,0,0)) false) :=
 fun _ _ _=>⟨h.symm,(fun e=>by cases e),fun _=>rfl⟩
theorem intoBits_sub (H:Nat->Prop) (k:Int) (b:Value) (bn:Int) (s i f c x:Value) (n:Nat) (F:Nat->Nat) (w:World) (hH:∀ b,H b->b < w.heap.size) (hn:n<=1000000)
  (hN:∀ W,Below w.heap.size w W->NumV (vecV k b bn s i f c x) k n F W) :
  Calls Tryz.prog 256 #[vecV k b bn s i f c x] w (Sub H w (PI 1 n F)):=by
 have main:∀ K,K<=n->(∀ j,j < K->isT (F j)=true)->(K < n->isT (F K)=false)->Calls Tryz.prog 256 #[vecV k b bn s i f c x] w (Sub H w (PI 1 n F)):=by
  intro K hK hy hno
  refine (intoBits_any k b bn s i f c x n K F w (by omega) hN hK hy hno).mono ?_
  rintro e w' (⟨hKn,g,rfl,hr,hb⟩ | ⟨hKn,rfl,hb⟩)
  ·have hfit:fitB 1 F n=true:=by
    unfold fitB
    rw [if_pos rfl,all_range]
    intro j hj
    exact hy j (by omega)
   refine ⟨1,(some ⟨g,0,none⟩,(n+63) / 64,(n+63) / 64),n,(none,0,0),(none,0,0),(none,0,0),(none,0,0),(none,0,0),true,rfl,?_,hb⟩
   refine (Own1.keepsH hr hH).imp fun W' h2=>⟨hfit.symm,fun _=>?_,fun e=>by cases e⟩
   exact (numV_bits (by omega) ⟨_,rfl,⟨g,0,_,rfl,fun j hj=>reads_cell h2 j hj⟩⟩).congr fun j hj=>(flag_tv (hy j (by omega))).symm
  ·have hfit:fitB 1 F n=false:=by unfold fitB;rw [if_pos rfl];exact all_bad hKn (hno hKn)
   exact ⟨0,(none,0,0),0,(none,0,0),(none,0,0),(none,0,0),(none,0,0),(none,0,0),false,rfl,Keeps.noVec hfit,hb⟩
 rcases first_bad (fun j=>isT (F j)) n with h | ⟨K,h1,h2,h3⟩
 ·exact main n (Nat.le_refl _) h (fun h=>absurd h (Nat.lt_irrefl _))
 ·exact main K (by omega) h3 (fun _=>h2)
theorem fi_zOf {b:Nat}{z:Int} (h:wholeP b=some z):fi (zOf b)=b:=by rw [zOf_of h];exact (wholeP_some h).2.symm
theorem intoSmalls_sub (H:Nat->Prop) (k:Int) (b:Value) (bn:Int) (s i f c x:Value) (n:Nat) (F:Nat->Nat) (w:World) (hH:∀ b,H b->b < w.heap.size) (hn:n<=1000000)
  (hN:∀ W,Below w.heap.size w W->NumV (vecV k b bn s i f c x) k n F W) :
  Calls Tryz.prog 257 #[vecV k b bn s i f c x] w (Sub H w (PI 2 n F)):=by
 have main:∀ K,K<=n->(∀ j,j < K->smallB (F j)=true)->(K < n->smallB (F K)=false)->Calls Tryz.prog 257 #[vecV k b bn s i f c x] w (Sub H w (PI 2 n F)):=by
  intro K hK hy hno
  refine (intoSmalls_any k b bn s i f c x n K F w hn hN hK hy hno).mono ?_
  rintro e w' (⟨hKn,a,n',c',rfl,ho,hb⟩ | ⟨hKn,rfl,hb⟩)
  ·have hfit:fitB 2 F n=true:=by
    unfold fitB
    rw [if_neg (by decide),if_pos rfl,all_range]
    intro j hj
    exact hy j (by omega)
   refine ⟨2,(none,0,0),0,(a,n',c'),(none,0,0),(none,0,0),(none,0,0),(none,0,0),true,rfl,?_,hb⟩
   refine (Own1.keepsH ho hH).imp fun W' h2=>⟨hfit.symm,fun _=>?_,fun e=>by cases e⟩
   refine (numV_small (l:=fun j=>zOf (F j)) ⟨⟨_,rfl,h2⟩,fun j hj=>?_⟩).congr fun j hj=>?_
   ·obtain ⟨z,hz,h3,h4⟩:=smallB_of (hy j (by omega))
    show -128<=zOf (F j)/\zOf (F j)<=127
    rw [zOf_of hz]
    exact ⟨h3,h4⟩
   ·obtain ⟨z,hz,h3,h4⟩:=smallB_of (hy j (by omega))
    exact (fi_zOf hz).symm
  ·have hfit:fitB 2 F n=false:=by unfold fitB;rw [if_neg (by decide),if_pos rfl];exact all_bad hKn (hno hKn)
   exact ⟨0,(none,0,0),0,(none,0,0),(none,0,0),(none,0,0),(none,0,0),(none,0,0),false,rfl,Keeps.noVec hfit,hb⟩
 rcases first_bad (fun j=>smallB (F j)) n with h | ⟨K,h1,h2,h3⟩
 ·exact main n (Nat.le_refl _) h (fun h=>absurd h (Nat.lt_irrefl _))
 ·exact main K (by omega) h3 (fun _=>h2)
theorem into_1 (H:Nat->Prop) (P:Value->Bool->World->Prop) (k:Int) (b:Value) (bn:Int) (s i f c x:Value) (w:World) (hk:k≠1) (hk0:k≠0) (hH:∀ b,H b->b < w.heap.size)
  (hcl:∀ W,Below w.heap.size w W->Calls Tryz.prog 58 #[vecV k b bn s i f c x] W fun e w2=>e= .returned (.int .i64 0)/\Below W.heap.size W w2)
  (hs:∀ W H',Below w.heap.size w W->(∀ b,H' b->b < W.heap.size)->Calls Tryz.prog 256 #[vecV k b bn s i f c x] W (Sub H' W P)) :
  Calls Tryz.prog 216 #[vecV k b bn s i f c x,.int .i64 1] w (Sub H w P):=by
 have HK:=Lib.hid (fun W=>kind_any k b bn s i f c x W)
 have HC:=Lib.hid hcl
 have HI:=Lib.hid (fun (W:World) (hb:Below w.heap.size w W)=>hs W (Hole H w W) hb (Hole.lt hH hb))
 clear hcl hs hH
 have e2:(k==1)=false:=by simpa using hk
 have e0:(k==0)=false:=by simpa using hk0
 go_enter Tryz.func216,Tryz.ntmps216
 go_wp2_with fail
 refine (HK.out _).mono ?_
 rintro e w1 ⟨rfl,hb1⟩
 have HS1:=Lib.hid ((St.new w k b bn s i f c x).step hb1)
 obtain ⟨h0,h1,h2,h3,h4,h5,h6,h7⟩:=HS1.out.box
 clear hb1
 go_wp2_with fail
 refine (HC.out _ HS1.out.bel).mono ?_
 rintro e w2 ⟨rfl,hb2⟩
 have HS2:=Lib.hid (HS1.out.step hb2)
 clear hb2 h0 h1 h2 h3 h4 h5 h6 h7 HS1
 obtain ⟨h0,h1,h2,h3,h4,h5,h6,h7⟩:=HS2.out.box
 go_wp2_with fail
 refine (HK.out _).mono ?_
 rintro e w3 ⟨rfl,hb3⟩
 have HS3:=Lib.hid (HS2.out.step hb3)
 clear hb3 h0 h1 h2 h3 h4 h5 h6 h7 HS2
 obtain ⟨h0,h1,h2,h3,h4,h5,h6,h7⟩:=HS3.out.box
 go_wp2_with fail
 refine (HI.out _ HS3.out.bel).mono ?_
 rintro e w4 ⟨k4,b4,bn4,s4,i4,f4,c4,x4,t,rfl,hk4,hb4⟩
 have HS4:=Lib.hid (HS3.out.step hb4)
 have HKE:=Lib.hid (hk4.sub (H':=fun j=>H j\/j=w.heap.size+1) fun j _ e=>e.imp id fun e=>by have:=HS3.out.sz;omega)
 clear hb4 hk4 h0 h1 h2 h3 h4 h5 h6 h7 HS3
 obtain ⟨⟨h0,h1,h2,h3,h4,h5,h6,h7⟩,hz⟩:=boxed_of HS4.out.res
 go_wp2
 refine bodyPost_ret (v := .tuple #[vecW k4 b4 bn4 s4 i4 f4 c4 x4,.bool t]) ?_ rfl ⟨k4,b4,bn4,s4,i4,f4,c4,x4,t,rfl,(HKE.out.set8 (.inr rfl) _ _ _ _ _ _ _ _).sub (fun _ _ e => .inl e),below_set8 HS4.out.bel (Nat.le_succ _) _ _ _ _ _ _ _ _⟩
 exact ret_vec2 (fn:=Tryz.f216) (p:=4) (u:=5) rfl _ _ (w.heap.size+1) (by rfl) (set8_block HS4.out.res _ _ _ _ _ _ _ _)
theorem into_2 (H:Nat->Prop) (P:Value->Bool->World->Prop) (k:Int) (b:Value) (bn:Int) (s i f c x:Value) (w:World) (hk:k≠2) (hk0:k≠0) (hH:∀ b,H b->b < w.heap.size)
  (hcl:∀ W,Below w.heap.size w W->Calls Tryz.prog 58 #[vecV k b bn s i f c x] W fun e w2=>e= .returned (.int .i64 0)/\Below W.heap.size W w2)
  (hs:∀ W H',Below w.heap.size w W->(∀ b,H' b->b < W.heap.size)->Calls Tryz.prog 257 #[vecV k b bn s i f c x] W (Sub H' W P)) :
  Calls Tryz.prog 216 #[vecV k b bn s i f c x,.int .i64 2] w (Sub H w P):=by
 have HK:=Lib.hid (fun W=>kind_any k b bn s i f c x W)
 have HC:=Lib.hid hcl
 have HI:=Lib.hid (fun (W:World) (hb:Below w.heap.size w W)=>hs W (Hole H w W) hb (Hole.lt hH hb))
 clear hcl hs hH
 have e2:(k==2)=false:=by simpa using hk
 have e0:(k==0)=false:=by simpa using hk0
 go_enter Tryz.func216,Tryz.ntmps216
 go_wp2_with fail
 refine (HK.out _).mono ?_
 rintro e w1 ⟨rfl,hb1⟩
 have HS1:=Lib.hid ((St.new w k b bn s i f c x).step hb1)
 obtain ⟨h0,h1,h2,h3,h4,h5,h6,h7⟩:=HS1.out.box
 clear hb1
 go_wp2_with fail
 refine (HC.out _ HS1.out.bel).mono ?_
 rintro e w2 ⟨rfl,hb2⟩
 have HS2:=Lib.hid (HS1.out.step hb2)
 clear hb2 h0 h1 h2 h3 h4 h5 h6 h7 HS1
 obtain ⟨h0,h1,h2,h3,h4,h5,h6,h7⟩:=HS2.out.box
 go_wp2_with fail
 refine (HK.out _).mono ?_
 rintro e w3 ⟨rfl,hb3⟩
 have HS3:=Lib.hid (HS2.out.step hb3)
 clear hb3 h0 h1 h2 h3 h4 h5 h6 h7 HS2
 obtain ⟨h0,h1,h2,h3,h4,h5,h6,h7⟩:=HS3.out.box
 go_wp2_with fail
 refine (HI.out _ HS3.out.bel).mono ?_
 rintro e w4 ⟨k4,b4,bn4,s4,i4,f4,c4,x4,t,rfl,hk4,hb4⟩
 have HS4:=Lib.hid (HS3.out.step hb4)
 have HKE:=Lib.hid (hk4.sub (H':=fun j=>H j\/j=w.heap.size+1) fun j _ e=>e.imp id fun e=>by have:=HS3.out.sz;omega)
 clear hb4 hk4 h0 h1 h2 h3 h4 h5 h6 h7 HS3
 obtain ⟨⟨h0,h1,h2,h3,h4,h5,h6,h7⟩,hz⟩:=boxed_of HS4.out.res
 go_wp2
 refine bodyPost_ret (v := .tuple #[vecW k4 b4 bn4 s4 i4 f4 c4 x4,.bool t]) ?_ rfl ⟨k4,b4,bn4,s4,i4,f4,c4,x4,t,rfl,(HKE.out.set8 (.inr rfl) _ _ _ _ _ _ _ _).sub (fun _ _ e => .inl e),below_set8 HS4.out.bel (Nat.le_succ _) _ _ _ _ _ _ _ _⟩
 exact ret_vec2 (fn:=Tryz.f216) (p:=4) (u:=5) rfl _ _ (w.heap.size+1) (by rfl) (set8_block HS4.out.res _ _ _ _ _ _ _ _)
theorem into_3 (H:Nat->Prop) (k:Int) (b:Value) (bn:Int) (s i f c x:Value) (n:Nat) (F:Nat->Nat) (w:World) (hk:k≠3) (hn:n<=1000000) (hH:∀ b,H b->b < w.heap.size)
  (hN:∀ W,Below w.heap.size w W->NumV (vecV k b bn s i f c x) k n F W) :
  Calls Tryz.prog 216 #[vecV k b bn s i f c x,.int .i64 3] w (Sub H w (PI 3 n F)):=by
 have hk0:k≠0:=by rcases (hN w (Below.refl _ _)).kind with e | e | e | e <;> omega
 have main:∀ K,K<=n->(∀ j,j < K->∃ z,wholeP (F j)=some z)->(K < n->wholeP (F K)=none)->Calls Tryz.prog 216 #[vecV k b bn s i f c x,.int .i64 3] w (Sub H w (PI 3 n F)):=by
  intro K hK hy hno
  have HFY:Hid (K=n->fitB 3 F n=true):=by
   intro e
   unfold fitB
   rw [if_neg (by decide),if_neg (by decide),if_pos rfl,all_range]
   intro j hj
   obtain ⟨z,hz⟩:=hy j (by omega)
   rw [hz];rfl
  have HFN:Hid (K < n->fitB 3 F n=false):=by
   intro e
   unfold fitB
   rw [if_neg (by decide),if_neg (by decide),if_pos rfl]
   exact all_bad e (by show (wholeP (F K)).isSome=false;rw [hno e];rfl)
  have HYY:=Lib.hid hy
  have HHH:=Lib.hid hH
  have HI:=Lib.hid (fun (W:World) (hb:Below w.heap.size w W)=>sqwholes_any k b bn s i f c x n K F W hn (fun W' hb'=>hN W' (bel_both hb hb')) hK hy hno)
  have HK:=Lib.hid (fun W=>kind_any k b bn s i f c x W)
  have HC:=Lib.hid (fun W hb=>(hN W hb).cls)
  clear hN hy hno hH
  have e2:(k==3)=false:=by simpa using hk
  have e0:(k==0)=false:=by simpa using hk0
  go_enter Tryz.func216,Tryz.ntmps216
  go_wp2_with fail
  refine (HK.out _).mono ?_
  rintro e w1 ⟨rfl,hb1⟩
  have HS1:=Lib.hid ((St.new w k b bn s i f c x).step hb1)
  obtain ⟨h0,h1,h2,h3,h4,h5,h6,h7⟩:=HS1.out.box
  clear hb1
  go_wp2_with fail
  refine (HC.out _ HS1.out.bel).mono ?_
  rintro e w2 ⟨rfl,hb2⟩
  have HS2:=Lib.hid (HS1.out.step hb2)
  clear hb2 h0 h1 h2 h3 h4 h5 h6 h7 HS1
  obtain ⟨h0,h1,h2,h3,h4,h5,h6,h7⟩:=HS2.out.box
  go_wp2_with fail
  refine (HK.out _).mono ?_
  rintro e w3 ⟨rfl,hb3⟩
  have HS3:=Lib.hid (HS2.out.step hb3)
  clear hb3 h0 h1 h2 h3 h4 h5 h6 h7 HS2
  obtain ⟨h0,h1,h2,h3,h4,h5,h6,h7⟩:=HS3.out.box
  go_wp2_with fail
  refine (HI.out _ HS3.out.bel).mono ?_
  rintro e w4 (⟨hKn,g,rfl,ho,hb4⟩ | ⟨hKn,rfl,hb4⟩)
  ·have HS4:=Lib.hid (HS3.out.step hb4)
   have HII:=Lib.hid (ints_any (w:=w4) (l:=(List.range n).map fun j=>zOf (F j)) (by rw [List.map_map];exact ho.reads) (by simpa using hn) (fun y hy=>by
    obtain ⟨j,hj,rfl⟩:=List.mem_map.1 hy
    obtain ⟨z,hz⟩:=HYY.out j (by have:=List.mem_range.1 hj;omega)
    rw [zOf_of hz]
    exact (wholeP_some hz).1))
   have HFI:=Lib.hid (HFY.out hKn)
   have HKN:=Lib.hid hKn
   clear hb4 ho hKn h0 h1 h2 h3 h4 h5 h6 h7 HS3
   go_wp2_with fail
   refine HII.out.mono ?_
   rintro e w5 ⟨u,rfl,hou,hb5⟩
   rw [List.map_map] at hou
   have HS5:=Lib.hid (HS4.out.step hb5)
   have HU:=Lib.hid (hou.lower (show w.heap.size+2<=w4.heap.size from HS4.out.sz))
   obtain ⟨a,n',c',hu⟩:∃ a n c,u= .slice a n c:=by obtain ⟨a,c,e⟩:=hou.reads.len;exact ⟨a,_,c,e⟩
   subst hu
   clear hb5 hou
   have HKE:Hid (Keeps (fun j=>j < w.heap.size+2) w5 (PI 3 n F (vecW 3 (none,0,0) 0 (none,0,0) (a,n',c') (none,0,0) (none,0,0) (none,0,0)) true)) :=
    (HU.out.keeps).imp fun W' h2=>⟨HFI.out.symm,(fun _=>(numV_ints (l:=fun j=>zOf (F j)) ⟨⟨_,rfl,h2⟩,fun j hj=>by
     obtain ⟨z,hz⟩:=HYY.out j (by rw [HKN.out];exact hj)
     show Good (zOf (F j))
     rw [zOf_of hz]
     exact (wholeP_some hz).1⟩).congr fun j hj=>by
      obtain ⟨z,hz⟩:=HYY.out j (by rw [HKN.out];exact hj)
      exact (fi_zOf hz).symm),fun e=>by cases e⟩
   obtain ⟨⟨h0,h1,h2,h3,h4,h5,h6,h7⟩,hz⟩:=boxed_of HS5.out.res
   go_wp2
   refine bodyPost_ret (v := .tuple #[vecV 3 vnil 0 vnil (.slice a n' c') vnil vnil vnil,.bool true]) ?_ rfl ⟨3,(none,0,0),0,(none,0,0),(a,n',c'),(none,0,0),(none,0,0),(none,0,0),true,rfl,(HKE.out.set8 (Nat.lt_succ_self _) _ _ _ _ _ _ _ _).sub (fun j _ e=>by have:=HHH.out j e;show j < w.heap.size+2;omega),below_set8 HS5.out.bel (Nat.le_succ _) _ _ _ _ _ _ _ _⟩
   exact ret_vec2 (fn:=Tryz.f216) (p:=4) (u:=5) rfl _ _ (w.heap.size+1) (by rfl) (set8_block HS5.out.res _ _ _ _ _ _ _ _)
  ·have HS4:=Lib.hid (HS3.out.step hb4)
   have HFI:=Lib.hid (HFN.out hKn)
   clear hb4 hKn h0 h1 h2 h3 h4 h5 h6 h7 HS3
   obtain ⟨⟨h0,h1,h2,h3,h4,h5,h6,h7⟩,hz⟩:=boxed_of HS4.out.res
   go_wp2
   refine bodyPost_ret (v := .tuple #[vecV 0 vnil 0 vnil vnil vnil vnil vnil,.bool false]) ?_ rfl ⟨0,(none,0,0),0,(none,0,0),(none,0,0),(none,0,0),(none,0,0),(none,0,0),false,rfl,Keeps.noVec HFI.out,below_set8 HS4.out.bel (Nat.le_succ _) _ _ _ _ _ _ _ _⟩
   exact ret_vec2 (fn:=Tryz.f216) (p:=4) (u:=5) rfl _ _ (w.heap.size+1) (by rfl) (set8_block HS4.out.res _ _ _ _ _ _ _ _)
 rcases first_bad (fun j=>(wholeP (F j)).isSome) n with h | ⟨K,h1,h2,h3⟩
 ·exact main n (Nat.le_refl _) (fun j hj=>Option.isSome_iff_exists.1 (h j hj)) (fun h=>absurd h (Nat.lt_irrefl _))
 ·exact main K (by omega) (fun j hj=>Option.isSome_iff_exists.1 (h3 j hj)) (fun _=>by
   cases hw:wholeP (F K) with
   | none=>rfl
   | some z=>rw [hw] at h2;cases h2)
theorem into_same (H:Nat->Prop) (P:Value->Bool->World->Prop) (k:Int) (b:Sl) (bn:Int) (s i f c x:Sl) (w:World)
  (hP:Keeps H w (P (vecW k b bn s i f c x) true)) :
  Calls Tryz.prog 216 #[vecW k b bn s i f c x,.int .i64 k] w (Sub H w P):=by
 have HK:=Lib.hid (fun W=>kind_any k (.slice b.1 b.2.1 b.2.2) bn (.slice s.1 s.2.1 s.2.2) (.slice i.1 i.2.1 i.2.2) (.slice f.1 f.2.1 f.2.2) (.slice c.1 c.2.1 c.2.2) (.slice x.1 x.2.1 x.2.2) W)
 have HKP:=Lib.hid (fun W (hb:Below w.heap.size w W)=>hP.arg hb)
 have ek:(k==k)=true:=by simp
 have HS0:=Lib.hid (St.new w k (.slice b.1 b.2.1 b.2.2) bn (.slice s.1 s.2.1 s.2.2) (.slice i.1 i.2.1 i.2.2) (.slice f.1 f.2.1 f.2.2) (.slice c.1 c.2.1 c.2.2) (.slice x.1 x.2.1 x.2.2))
 clear hP
 go_enter Tryz.func216,Tryz.ntmps216
 go_wp2_with fail
 refine (HK.out _).mono ?_
 rintro e w1 ⟨rfl,hb1⟩
 have HS1:=Lib.hid (HS0.out.step hb1)
 have HKE:=Lib.hid (HKP.out _ HS1.out.bel)
 clear hb1
 obtain ⟨h0,h1,h2,h3,h4,h5,h6,h7⟩:=HS1.out.box
 obtain ⟨⟨g0,g1,g2,g3,g4,g5,g6,g7⟩,gz⟩:=boxed_of HS1.out.res
 have HSZ:=Lib.hid HS1.out.sz
 go_wp2
 refine bodyPost_ret (v := .tuple #[vecW k b bn s i f c x,.bool true]) ?_ rfl ⟨k,b,bn,s,i,f,c,x,true,rfl,(HKE.out.set8 (.inr ⟨Nat.le_succ _,HSZ.out⟩) _ _ _ _ _ _ _ _).sub (fun _ _ e => .inl e),below_set8 HS1.out.bel (Nat.le_succ _) _ _ _ _ _ _ _ _⟩
 exact ret_vec2 (fn:=Tryz.f216) (p:=4) (u:=5) rfl _ _ (w.heap.size+1) (by rfl) (set8_block HS1.out.res _ _ _ _ _ _ _ _)
theorem rank1 {b:Nat} (h:rankF b<=1):isT b=true:=by
 unfold rankF at h
 split at h
 ·rename_i z e
  have hb:=(wholeP_some e).2
  have hz:z=0\/z=1:=by
   unfold rankS at h
   split at h
   ·assumption
   ·split at h <;> omega
  unfold isT
  rw [decide_eq_true_eq]
  rcases hz with rfl | rfl
  ·left;rw [hb,fi_zero]
  ·right;rw [hb,fi_one]
 ·omega
theorem rank2 {b:Nat} (h:rankF b<=2):smallB b=true:=by
 unfold rankF at h
 unfold smallB
 split at h
 ·rename_i z e
  try rw [e]
  show decide _=true
  rw [decide_eq_true_eq]
  unfold rankS at h
  split at h
  ·omega
  ·split at h
   ·assumption
   ·omega
 ·omega
theorem rank3 {b:Nat} (h:rankF b<=3):(wholeP b).isSome=true:=by
 unfold rankF at h
 split at h
 ·rename_i z e;rw [e];rfl
 ·omega
theorem fit_least (F:Nat->Nat) (n:Nat):fitB (leastF F n:Nat) F n=true:=by
 have hle:=leastF_le F n
 have hr:∀ j,j < n->rankF (F j)<=leastF F n:=fun j hj=>leastF_rank F hj
 unfold fitB
 rcases (by omega:leastF F n=1\/leastF F n=2\/leastF F n=3\/leastF F n=4) with e | e | e | e
 ·rw [show ((leastF F n:Nat):Int)=1 by omega,if_pos rfl,all_range];exact fun j hj=>rank1 (by have:=hr j hj;omega)
 ·rw [show ((leastF F n:Nat):Int)=2 by omega,if_neg (by decide),if_pos rfl,all_range];exact fun j hj=>rank2 (by have:=hr j hj;omega)
 ·rw [show ((leastF F n:Nat):Int)=3 by omega,if_neg (by decide),if_neg (by decide),if_pos rfl,all_range];exact fun j hj=>rank3 (by have:=hr j hj;omega)
 ·rw [show ((leastF F n:Nat):Int)=4 by omega,if_neg (by decide),if_neg (by decide),if_neg (by decide)]
theorem into_num (H:Nat->Prop) (kd k:Int) (b:Sl) (bn:Int) (s i f c x:Sl) (n:Nat) (F:Nat->Nat) (w:World) (hH:∀ b,H b->b < w.heap.size) (hn:n<=1000000)
  (hv:Keeps H w (NumV (vecW k b bn s i f c x) k n F)) (hkd:kd=1\/kd=2\/kd=3\/(kd=4/\k=4)) (hf:kd=k->fitB kd F n=true) :
  Calls Tryz.prog 216 #[vecW k b bn s i f c x,.int .i64 kd] w (Sub H w (PI kd n F)):=by
 have hN:∀ W,Below w.heap.size w W->NumV (vecW k b bn s i f c x) k n F W:=fun W hb=>(hv.step hb).now
 have hkind:=(hN w (Below.refl _ _)).kind
 by_cases e:kd=k
 ·subst e
  exact into_same H _ kd b bn s i f c x w (hv.imp fun W h=>⟨(hf rfl).symm,fun _=>h,fun e=>by cases e⟩)
 ·rcases hkd with rfl | rfl | rfl | ⟨rfl,rfl⟩
  ·exact into_1 H _ k _ bn _ _ _ _ _ w (fun h=>e h.symm) (by omega) hH (fun W hb=>(hN W hb).cls) fun W H' hb hH'=>intoBits_sub H' k _ bn _ _ _ _ _ n F W hH' hn fun W' hb'=>hN W' (bel_both hb hb')
  ·exact into_2 H _ k _ bn _ _ _ _ _ w (fun h=>e h.symm) (by omega) hH (fun W hb=>(hN W hb).cls) fun W H' hb hH'=>intoSmalls_sub H' k _ bn _ _ _ _ _ n F W hH' hn fun W' hb'=>hN W' (bel_both hb hb')
  ·exact into_3 H k _ bn _ _ _ _ _ n F w (fun h=>e h.symm) hn hH hN
  ·exact absurd rfl e
theorem sub_intoR {H:Nat->Prop}{w W:World}{kd:Int}{n:Nat}{F:Nat->Nat} (hf:fitB kd F n=true) (e:Ending) (w':World) (h:Sub (Hole H w W) W (PI kd n F) e w'):IntoR H w W (fun u W'=>NumV u kd n F W') e w':=by
 obtain ⟨k,b,bn,s,i,f,c,x,t,rfl,hk,hb⟩:=h
 have ht:t=true:=by rw [hk.now.1,hf]
 subst ht
 exact ⟨k,b,bn,s,i,f,c,x,rfl,hk.imp fun W' h=>h.2.1 rfl,hb⟩
theorem squeeze_num (H:Nat->Prop) (k:Int) (b:Sl) (bn:Int) (s i f c x:Sl) (n:Nat) (F:Nat->Nat) (w:World) (hH:∀ b,H b->b < w.heap.size) (hn:n<=1000000)
  (hv:Keeps H w (NumV (vecW k b bn s i f c x) k n F)) :
  Calls Tryz.prog 142 #[vecW k b bn s i f c x] w (VecR H w (fun u W=>NumV u (leastF F n:Nat) n F W)):=by
 have hN:∀ W,Below w.heap.size w W->NumV (vecW k b bn s i f c x) k n F W:=fun W hb=>(hv.step hb).now
 have hkind:=(hN w (Below.refl _ _)).kind
 have hle:=leastF_le F n
 refine squeeze_any H _ (leastF F n:Nat) k _ bn _ _ _ _ _ w (fun W hb=>?_) (fun W hb=>?_)
 ·rcases hkind with e | e | e | e
  ·exact least_whole k (.inl e) _ bn _ _ _ _ _ n F W (by omega) fun W' hb'=>hN W' (bel_both hb hb')
  ·exact least_whole k (.inr (.inl e)) _ bn _ _ _ _ _ n F W (by omega) fun W' hb'=>hN W' (bel_both hb hb')
  ·exact least_whole k (.inr (.inr e)) _ bn _ _ _ _ _ n F W (by omega) fun W' hb'=>hN W' (bel_both hb hb')
  ·subst e
   exact least_float _ bn _ _ _ _ _ n F W (by omega) fun W' hb'=>hN W' (bel_both hb hb')
 ·refine (into_num (Hole H w W) (leastF F n:Nat) k b bn s i f c x n F W (Hole.lt hH hb) hn (hv.arg hb) ?_ (fun _=>fit_least F n)).mono (sub_intoR (fit_least F n))
  rcases (by omega:leastF F n=1\/leastF F n=2\/leastF F n=3\/leastF F n=4) with e | e | e | e
  ·left;omega
  ·right;left;omega
  ·right;right;left;omega
  ·right;right;right
   refine ⟨by omega,?_⟩
   rcases hkind with e2 | e2 | e2 | e2
   ·have:=leastF_ints F n ((hN w (Below.refl _ _)).ints (by omega));omega
   ·have:=leastF_ints F n ((hN w (Below.refl _ _)).ints (by omega));omega
   ·have:=leastF_ints F n ((hN w (Below.refl _ _)).ints (by omega));omega
   ·exact e2
theorem ntidy_tf {b:Nat} (h:TF b) (w:World):Calls Tryz.prog 252 #[.float .f64 b] w fun e w'=>e= .returned (.tuple #[.float .f64 b,.bool true])/\w=w':=by
 have hd:=doneP_tf h
 obtain ⟨s,Z,hz,rfl,h0⟩:=h
 have h1:=ntidy_num s hz w
 rw [doneP_num s hz] at hd
 rw [(Prod.mk.inj hd).1] at h1
 exact h1
theorem bits_tf {b:Nat} (h:TF b) (w:World):Calls Tryz.prog 206 #[.float .f64 b,.float .f64 b] w fun e w'=>e= .returned (.bool true)/\w=w':=by
 obtain ⟨s,Z,hz,rfl,h0⟩:=h
 exact bits_same' s hz w
theorem floats_zero (a:Option Addr) (c:Nat) (w:World) :
  Calls Tryz.prog 218 #[.slice a 0 c] w fun e w'=>∃ u,e= .returned (.tuple #[vecV 4 vnil 0 vnil vnil u vnil vnil,.bool true])/\Own1 w' w.heap.size 55 u []/\Below w.heap.size w w':=by
 have hmk:=run_make_row' (P:=Tryz.prog) 33 55 (.float .f64 0) 8 Tryz.underlying33 info_f64 rfl .i64 .i64 0 (by omega) (by omega)
 rw [show ((0:Nat):Int)=0 from rfl] at hmk
 have hsz:(w.alloc (.cells #[.int .i64 4,vnil,.int .i64 0,vnil,vnil,.slice (some ⟨w.heap.size+1,0,none⟩) 0 0,vnil,vnil] 37)).heap.size=w.heap.size+1:=by simp
 have HF0:=Lib.hid (Fill.made (w.alloc (.cells #[.int .i64 4,vnil,.int .i64 0,vnil,vnil,.slice (some ⟨w.heap.size+1,0,none⟩) 0 0,vnil,vnil] 37)) w.heap.size (by simp) 55 (fun _ => .float .f64 0) (.float .f64 0) 0 (by unfold maxLen;omega)).own
 rw [hsz] at HF0
 have HB0:=Lib.hid (bel2 w (.cells #[.int .i64 4,vnil,.int .i64 0,vnil,vnil,.slice (some ⟨w.heap.size+1,0,none⟩) 0 0,vnil,vnil] 37) (.cells (madeCells #[.float .f64 0] 0) 55))
 have HK0:=Lib.hid (block_up (bel1 (w.alloc (.cells #[.int .i64 4,vnil,.int .i64 0,vnil,vnil,.slice (some ⟨w.heap.size+1,0,none⟩) 0 0,vnil,vnil] 37)) (.cells (madeCells #[.float .f64 0] 0) 55)))
 clear hsz
 go_enter Tryz.func218,Tryz.ntmps218
 go_wp2
 refine wp_loop_rounds 1 ?_
 rw [rounds_succ]
 go_wp2
 refine bodyPost_ret (v := .tuple #[vecV 4 vnil 0 vnil vnil (.slice (some ⟨w.heap.size+1,0,none⟩) 0 0) vnil vnil,.bool true]) ?_ rfl ⟨.slice (some ⟨w.heap.size+1,0,none⟩) 0 0,rfl,HF0.out,HB0.out⟩
 exact ret_vec2 (fn:=Tryz.f218) (p:=2) (u:=3) rfl _ _ w.heap.size (by rfl) HK0.out
theorem floats_any {w:World}{v:Value}{n:Nat}{F:Nat->Nat} (hr:Reads1 w v ((List.range n).map fun j => .float .f64 (F j))) (hn:n<=1000000) (ht:∀ j,j < n->TF (F j)) :
  Calls Tryz.prog 218 #[v] w fun e w'=>∃ a m c,e= .returned (.tuple #[vecV 4 vnil 0 vnil vnil (.slice a m c) vnil vnil,.bool true])/\Own1 w' w.heap.size 55 (.slice a m c) ((List.range n).map fun j => .float .f64 (F j))/\Below w.heap.size w w':=by
 obtain ⟨a,c,rfl,hc⟩:=reads_at hr
 by_cases h0:n=0
 ·subst h0
  refine (floats_zero a c w).mono ?_
  rintro e w' ⟨u,rfl,ho,hb⟩
  obtain ⟨a,c,rfl⟩:∃ a c,u= .slice a 0 c:=ho.reads.len
  exact ⟨a,0,c,rfl,ho,hb⟩
 ·obtain ⟨b,o,rfl,_⟩:=hc 0 (by omega)
  refine (floats_walk b o n c F F hn w (fun i hi=>?_) (fun i hi W=>ntidy_tf (ht i hi) W)).mono ?_
  ·obtain ⟨b',o',e,hcell⟩:=hc i hi
   injection e with e
   injection e with e1 e2 _
   subst e1;subst e2
   exact hcell
  ·rintro e w' ⟨u,rfl,ho,hb⟩
   obtain ⟨a,c,rfl⟩:=ho.reads.len
   exact ⟨a,_,c,rfl,ho,hb⟩
theorem numbers_any (H:Nat->Prop) (v:Value) (n:Nat) (F:Nat->Nat) (w:World) (hH:∀ b,H b->b < w.heap.size) (hr:Reads1 w v ((List.range n).map fun j => .float .f64 (F j))) (hn:n<=1000000) (ht:∀ j,j < n->TF (F j)) :
  Calls Tryz.prog 144 #[v] w (Vec2R H w (fun u W=>NumV u (leastF F n:Nat) n F W)):=by
 have HF:=Lib.hid (floats_any (hr.below (bel1 w (.cells zcells 37))) hn ht)
 have HT:=Lib.hid ht
 have HH:=Lib.hid hH
 obtain ⟨v1,v2,v3,rfl⟩:∃ a m c,v= .slice a m c:=by obtain ⟨a,c,e⟩:=hr.len;exact ⟨a,_,c,e⟩
 clear hr ht hH
 go_enter Tryz.func144,Tryz.ntmps144
 go_wp2_with fail
 refine HF.out.mono ?_
 rintro e w1 ⟨a,m,c,rfl,ho,hb1⟩
 have HK1:=Lib.hid (block_up hb1)
 have HB1:=Lib.hid (bel_both (bel1 w _) hb1)
 have HO:=Lib.hid (ho.lower (show w.heap.size+1<=_ by simp))
 clear hb1 ho
 have HB2:=Lib.hid (bel_both HB1.out (bel1 w1 (.cells #[.int .i64 4,vnil,.int .i64 0,vnil,vnil,.slice a m c,vnil,vnil] 37)))
 have HK2:=Lib.hid ((Below.heap_alloc w1 (.cells #[.int .i64 4,vnil,.int .i64 0,vnil,vnil,.slice a m c,vnil,vnil] 37) _ (lt_of_block HK1.out)).trans HK1.out)
 have HKV:Hid (Keeps (fun j=>H j\/j=w.heap.size) (w1.alloc (.cells #[.int .i64 4,vnil,.int .i64 0,vnil,vnil,.slice a m c,vnil,vnil] 37)) (NumV (vecW 4 (none,0,0) 0 (none,0,0) (none,0,0) (a,m,c) (none,0,0) (none,0,0)) 4 n F)) :=
  ((HO.out.keepsH (fun j e=>by rcases e with e | e;have:=HH.out j e;omega;omega)).imp fun W' h2=>numV_floats ⟨⟨_,rfl,h2⟩,HT.out⟩).step (bel1 w1 _)
 have HS:=Lib.hid (squeeze_num (fun j=>H j\/j=w.heap.size) 4 (none,0,0) 0 (none,0,0) (none,0,0) (a,m,c) (none,0,0) (none,0,0) n F _ (fun j e=>by
  have h1:=HB2.out.size
  have h2:=lt_of_block HK2.out
  rcases e with e | e
  ·have:=HH.out j e;omega
  ·omega) hn HKV.out)
 go_wp2_with fail
 refine HS.out.mono ?_
 rintro e w3 ⟨k4,b4,bn4,s4,i4,f4,c4,x4,rfl,hk4,hb4⟩
 have HB4:=Lib.hid (bel_both HB2.out hb4)
 have HK4:=Lib.hid (show w3.heap[w.heap.size]?=some (.cells zcells 37) by rw [hb4.block _ (lt_of_block HK2.out)];exact HK2.out)
 have HKE:=Lib.hid hk4
 clear hb4 hk4
 obtain ⟨⟨h0,h1,h2,h3,h4,h5,h6,h7⟩,hz⟩:=boxed_of HK4.out
 go_wp2
 refine bodyPost_ret (v := .tuple #[vecW k4 b4 bn4 s4 i4 f4 c4 x4,.bool true]) ?_ rfl ⟨k4,b4,bn4,s4,i4,f4,c4,x4,rfl,(HKE.out.set8 (.inr rfl) _ _ _ _ _ _ _ _).sub (fun _ _ e => .inl e),below_set8 HB4.out (Nat.le_refl _) _ _ _ _ _ _ _ _⟩
 exact ret_vec2 (fn:=Tryz.f144) (p:=2) (u:=3) rfl _ _ w.heap.size (by rfl) (set8_block HK4.out _ _ _ _ _ _ _ _)
theorem nums_num (k:Int) (b:Value) (bn:Int) (s i f c x:Value) (n:Nat) (F:Nat->Nat) (w:World) (hn:n<=1000000) (hN:∀ W,Below w.heap.size w W->NumV (vecV k b bn s i f c x) k n F W) :
  Calls Tryz.prog 124 #[vecV k b bn s i f c x] w fun e w'=>∃ v,e= .returned v/\Own1 w' w.heap.size 55 v ((List.range n).map fun j => .float .f64 (F j))/\Below w.heap.size w w' :=
 nums_walk k b bn s i f c x n F w ⟨fun W hb=>(hN W hb).cls,fun W hb=>(hN W hb).len,fun W hb j hj=>(hN W hb).num j hj⟩ hn
theorem oneP_cases {pw:Nat->Nat->Nat×Int} (hp:PowIs pw) (f:Int){a b:Nat} (ha:TF a) (hb:TF b):(∃ c,TF c/\oneP pw f a b=(c,0))\/oneP pw f a b=(0,24):=by
 unfold oneP
 split
 ·exact doneP_cases (add_tot ha hb).2
 split
 ·exact doneP_cases (sub_tot ha hb).2
 split
 ·exact doneP_cases (mul_tot ha hb).2
 split
 ·unfold divP
  split
  ·split
   ·exact .inl ⟨_,tf_one,rfl⟩
   ·exact .inr rfl
  ·rename_i h0;exact doneP_cases (div_tot ha hb h0).2
 split
 ·exact .inl ⟨_,maxP_tf ha hb,rfl⟩
 split
 ·exact .inl ⟨_,minP_tf ha hb,rfl⟩
 split
 ·unfold restP
  split
  ·rename_i x y ex ey;exact .inl ⟨_,tf_fi (restZ_good (wholeP_some ex).1 (wholeP_some ey).1),rfl⟩
  ·exact .inr rfl
 split
 ·exact hp.tf a b ha hb
 split
 ·exact .inl ⟨_,tf_flag _,rfl⟩
 ·unfold logP
  split
  ·exact .inl ⟨_,tf_flag _,rfl⟩
  ·exact .inr rfl
theorem St.two {w W W':World}{k:Int}{b:Value}{bn:Int}{s i f c x:Value} (h:St w W k b bn s i f c x) (hb:Below (w.heap.size+2) W W'):St w W' k b bn s i f c x :=
 ⟨h.box.of fun j=>hb.cell (p:=⟨w.heap.size,j,none⟩) (by show w.heap.size < _;omega),by rw [hb.block _ (by omega)];exact h.res,h.bel.trans (hb.mono (by omega))⟩
end Go.Proofs.YtiahegjdkejjpaaGreatDoor
