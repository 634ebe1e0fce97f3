/- The walk of logic.Truths. The walk of logic.Apply at numbers in any stores, at least one. The walks of squeeze.Least and Tight at characters and boxes. The .. Conditions: as each theorem says. -/
import Derived.Test.YtiahegjdkejjpaaGreatDoorMg16
import Derived.Test.YtiahegjdkejjpaaGreatDoorMg10
import Derived.Test.YtiahegjdkejjpaaGreatDoorMg15
set_option maxRecDepth 100000
set_option maxHeartbeats 4000000
namespace Go.Proofs.YtiahegjdkejjpaaGreatDoor
open Go Go.RowKit Go.Proofs Fl
def TsOut (m:Nat) (F:Nat->Nat) (w:World) (e:Ending) (w':World):Prop :=
 ((∀ j,j < m->isT (F j)=true)/\∃ (b:Sl) (L:Nat->Bool),e= .returned (.tuple #[.agg #[.slice b.1 b.2.1 b.2.2,.int .i64 (m:Int)],.bool true])/\BitsAt w' b m L/\(∀ j,j < m->F j=flagF (L j))/\Below w.heap.size w w') \/
 ((∃ j,j < m/\isT (F j)=false)/\e= .returned (.tuple #[.agg #[vnil,.int .i64 0],.bool false])/\Below w.heap.size w w')
theorem fit1_iff {m:Nat}{F:Nat->Nat}:fitB 1 F m=true↔∀ j,j < m->isT (F j)=true:=by
 unfold fitB
 rw [if_pos rfl]
 exact all_range
theorem fit1_bad {m:Nat}{F:Nat->Nat} (h:fitB 1 F m=false):∃ j,j < m/\isT (F j)=false:=by
 rcases first_bad (fun j=>isT (F j)) m with hall | ⟨K,hK,hb,_⟩
 ·rw [fit1_iff.2 hall] at h;cases h
 ·exact ⟨K,hK,hb⟩
theorem isT_of_bits {k:Int}{b:Sl}{bn:Int}{s i f g x:Sl}{m:Nat}{F:Nat->Nat}{w:World} (hk:1=k) (h:NumV (vecW k b bn s i f g x) k m F w):fitB 1 F m=true:=by
 subst hk
 obtain ⟨_,L,_,hf⟩:=h.bits
 exact fit1_iff.2 fun j hj=>by rw [hf j hj];cases L j <;> decide
theorem truths_any (p:V8) (m:Nat) (F:Nat->Nat) (w:World) (hm:m<=1000000) (hv:Keeps (fun _=>False) w (NumV p.v p.k m F)) :
  Calls Tryz.prog 213 #[p.v] w (TsOut m F w):=by
 have HI:=Lib.hid (fun W (hb:Below w.heap.size w W) (hz:w.heap.size+1 < W.heap.size)=>into_num (fun j=>j=w.heap.size+1) 1 p.k p.b p.bn p.s p.i p.f p.c p.x m F W (fun j h=>by omega) hm (hv.below' hb _ (fun j hj h=>by omega)) (.inl rfl) (fun e=>isT_of_bits e (hv.step hb).now))
 have HC:=Lib.hid (fun W (hb:Below w.heap.size w W)=>((hv.step hb).now).cls)
 have HS0:=Lib.hid (Sb.new w p)
 unfold Sub at HI
 clear hv
 go_enter Tryz.func213,Tryz.ntmps213
 obtain ⟨h0,h1,h2,h3,h4,h5,h6,h7⟩:=HS0.out.one
 go_wp2_with fail
 refine (HI.out _ HS0.out.bel HS0.out.sz).mono ?_
 rintro e w1 ⟨k,b,bn,s,i,f,c,x,t,rfl,hk,hb1⟩
 have HS1:=Lib.hid (HS0.out.step hb1)
 have HK:=Lib.hid hk
 clear hb1 hk h0 h1 h2 h3 h4 h5 h6 h7
 have HS2:=Lib.hid (HS1.out.step (bel1 w1 (.cells #[.int .i64 k,.slice b.1 b.2.1 b.2.2,.int .i64 bn,.slice s.1 s.2.1 s.2.2,.slice i.1 i.2.1 i.2.2,.slice f.1 f.2.1 f.2.2,.slice c.1 c.2.1 c.2.2,.slice x.1 x.2.1 x.2.2] 37)))
 have HX2:=Lib.hid (boxed_new w1 37 k (.slice b.1 b.2.1 b.2.2) bn (.slice s.1 s.2.1 s.2.2) (.slice i.1 i.2.1 i.2.2) (.slice f.1 f.2.1 f.2.2) (.slice c.1 c.2.1 c.2.2) (.slice x.1 x.2.1 x.2.2))
 have z1:w.heap.size+1 < w1.heap.size:=HS1.out.sz
 cases t with
 | false =>
  have HBAD:=Lib.hid (fit1_bad HK.out.now.1.symm)
  have HKE:=Lib.hid (set2_block HS1.out.res vnil (.int .i64 0))
  obtain ⟨hk0,hk1,hkf⟩:=pair_of HS1.out.res
  go_wp2
  refine bodyPost_ret (v := .tuple #[.agg #[vnil,.int .i64 0],.bool false]) ?_ rfl (.inr ⟨HBAD.out,rfl,bel_both (below_set2 HS1.out.bel (Nat.le_succ _) _ _) (bel1 _ _)⟩)
  exact ret_bits2 (fn:=Tryz.f213) (p:=2) (u:=3) rfl _ _ (w.heap.size+1) (by rfl) ((Below.heap_alloc _ _ _ (lt_of_block HKE.out)).trans HKE.out)
 | true =>
  have HALL:=Lib.hid (fit1_iff.1 HK.out.now.1.symm)
  have HKN:Hid (Keeps (fun j=>j=w.heap.size+1) w1 (NumV (vecW k b bn s i f c x) 1 m F)):=HK.out.imp fun W h=>h.2.1 rfl
  obtain rfl:k=1:=HKN.out.now.kindEq
  obtain ⟨h0,h1,h2,h3,h4,h5,h6,h7⟩:=HS2.out.one
  go_wp2_with fail
  refine (HC.out _ HS2.out.bel).mono ?_
  rintro e w3 ⟨rfl,hb3⟩
  have HS3:=Lib.hid (HS2.out.step hb3)
  have HX3:=Lib.hid (HX2.out.below hb3)
  have HK3:=Lib.hid ((HKN.out.step (bel1 w1 (.cells #[.int .i64 1,.slice b.1 b.2.1 b.2.2,.int .i64 bn,.slice s.1 s.2.1 s.2.2,.slice i.1 i.2.1 i.2.2,.slice f.1 f.2.1 f.2.2,.slice c.1 c.2.1 c.2.2,.slice x.1 x.2.1 x.2.2] 37))).step hb3)
  clear hb3 h0 h1 h2 h3 h4 h5 h6 h7
  obtain ⟨h0,h1,h2,h3,h4,h5,h6,h7⟩:=HX3.out
  go_wp2_with fail
  refine (packed_yes b bn _ _ _ _ _ _).mono ?_
  rintro e w4 ⟨rfl,hb4⟩
  have HS4:=Lib.hid (HS3.out.step hb4)
  have HK4:=Lib.hid (HK3.out.step hb4)
  clear hb4 h0 h1 h2 h3 h4 h5 h6 h7
  have HKS:Hid (Keeps (fun j=>j=w.heap.size+1) (set2 w4 (w.heap.size+1) (.slice b.1 b.2.1 b.2.2) (.int .i64 bn)) (NumV (vecW 1 b bn s i f c x) 1 m F)):=(HK4.out.set rfl _).set rfl _
  obtain ⟨rfl,L,hL,hF⟩:=HKS.out.now.bits
  have HF:=Lib.hid hF
  have HLE:=Lib.hid hL
  have HKE:=Lib.hid (set2_block HS4.out.res (.slice b.1 b.2.1 b.2.2) (.int .i64 (m:Int)))
  have HBE:=Lib.hid (below_set2 HS4.out.bel (Nat.le_succ _) (.slice b.1 b.2.1 b.2.2) (.int .i64 (m:Int)))
  clear hL hF
  obtain ⟨hk0,hk1,hkf⟩:=pair_of HS4.out.res
  go_wp2
  refine bodyPost_ret (v := .tuple #[.agg #[.slice b.1 b.2.1 b.2.2,.int .i64 (m:Int)],.bool true]) ?_ rfl (.inl ⟨HALL.out,b,L,rfl,HLE.out,HF.out,HBE.out⟩)
  exact ret_bits2 (fn:=Tryz.f213) (p:=2) (u:=3) rfl _ _ (w.heap.size+1) (by rfl) HKE.out
theorem tabN_rel (f:Int) (hf:21<=f) (hf2:f<=24) (a b:Bool):(tabN f).testBit (2*a.toNat+b.toNat)=logB f a b:=by
 refine int4 (P:=fun f=>(tabN f).testBit (2*a.toNat+b.toNat)=logB f a b) f hf hf2 ?_ ?_ ?_ ?_
 all_goals cases a <;> cases b <;> decide
theorem tabN_lt (f:Int):tabN f < 16:=by unfold tabN;split;decide;split;decide;split <;> decide
theorem tv_flag (t:Bool):tv (flagF t)=t:=by cases t <;> decide
theorem BitsAt.set2 {W:World}{b:Sl}{n:Nat}{L:Nat->Bool} (h:BitsAt W b n L){V:Nat}{a:Option Addr}{l c:Nat}{z:Int}{e:TypeId} (hV:W.heap[V]?=some (.cells #[.slice a l c,.int .i64 z] e)) (u0 u1:Value):BitsAt (Go.Proofs.YtiahegjdkejjpaaGreatDoor.set2 W V u0 u1) b n L:=by
 obtain ⟨g,o,cc,e1,hc⟩:=h
 refine ⟨g,o,cc,e1,fun j hj=>?_⟩
 have hcj:=hc j hj
 have hne:g≠V:=by
  rintro rfl
  rw [cell_of_row _ g (o+j) _ e (0,0) hV] at hcj
  match hoj:o+j with
  | 0=>rw [hoj] at hcj;simp at hcj
  | 1=>rw [hoj] at hcj;simp at hcj
  | k+2=>rw [hoj] at hcj;simp at hcj
 rw [<- hcj]
 exact World.cell?_of_block (by rw [Below.heap_setCell _ _ _ _ hne,Below.heap_setCell _ _ _ _ hne])
def Lg2Out (H:Nat->Prop) (w:World) (TT R:Nat->Bool) (r:Option Nat) (e:Ending) (w':World):Prop :=
 (r=none/\e= .returned (.tuple #[vecV 0 vnil 0 vnil vnil vnil vnil vnil,.int .i64 23])/\Below w.heap.size w w') \/
 (∃ N,r=some N/\(((∀ c,c < N->TT c=true)/\VecOk H w (fun u W=>NumV u 1 N (fun c=>flagF (R c)) W) e w')\/((∃ c,c < N/\TT c=false)/\e= .returned (.tuple #[vecV 0 vnil 0 vnil vnil vnil vnil vnil,.int .i64 24])/\Below w.heap.size w w')))
theorem least_cls (k:Int) (b:Value) (bn:Int) (s i f c x:Value) (z:Int) (hz:z≠0) (w:World)
  (hc:∀ W,Calls Tryz.prog 58 #[vecV k b bn s i f c x] W fun e w'=>e= .returned (.int .i64 z)/\Below W.heap.size W w') :
  Calls Tryz.prog 217 #[vecV k b bn s i f c x] w fun e w'=>e= .returned (.int .i64 k)/\Below w.heap.size w w':=by
 have HC:=Lib.hid hc
 have HK:=Lib.hid (fun W=>vkind_any k b bn s i f c x W)
 have hz2:(z != 0)=true:=by simpa using hz
 clear hc hz
 go_enter Tryz.func217,Tryz.ntmps217
 go_wp2_with fail
 refine (HC.out _).mono ?_
 rintro e w1 ⟨rfl,hb1⟩
 have HB1:=Lib.hid (bel_both (bel1 w _) hb1)
 obtain ⟨h0,h1,h2,h3,h4,h5,h6,h7⟩:=(boxed_new w 37 k b bn s i f c x).below hb1
 clear hb1
 go_wp2_with fail
 refine (HK.out _).mono ?_
 rintro e w2 ⟨rfl,hb2⟩
 have HB2:=Lib.hid (bel_both HB1.out hb2)
 clear hb2 h0 h1 h2 h3 h4 h5 h6 h7
 go_wp2
 go_ret
 exact ⟨rfl,HB2.out⟩
theorem tight_cls (k:Int) (b:Value) (bn:Int) (s i f c x:Value) (z:Int) (hz:z≠0) (w:World)
  (hc:∀ W,Calls Tryz.prog 58 #[vecV k b bn s i f c x] W fun e w'=>e= .returned (.int .i64 z)/\Below W.heap.size W w') :
  Calls Tryz.prog 202 #[vecV k b bn s i f c x] w fun e w'=>e= .returned (.bool true)/\Below w.heap.size w w':=by
 have HC:=Lib.hid (fun W=>vkind_any k b bn s i f c x W)
 have HL:=Lib.hid (fun W=>least_cls k b bn s i f c x z hz W hc)
 have hkk:(k==k)=true:=by simp
 clear hc hz
 go_enter Tryz.func202,Tryz.ntmps202
 go_wp2_with fail
 go_region_with (first
  | (go_at_call 66;go_loud ((refine (HC.out _).mono ?_);rintro e w1 ⟨rfl,hb1⟩);obtain ⟨hc1,hf1⟩:=bcell2 hb1;have hz1:=hb1.size)
  | (go_at_call 217;go_loud ((refine (HL.out _).mono ?_);rintro e w2 ⟨rfl,hb2⟩);obtain ⟨hc2,hf2⟩:=bcell2 hb2;have hz2:=hb2.size))
 all_goals
  go_wp2
  go_ret
  exact ⟨rfl,bel_both (bel_both (bel1 w _).drew hb1) hb2⟩
structure ClsV (w:World) (p:V8) (z:Int) (n:Nat):Prop where
 cls:∀ W,Below w.heap.size w W->Calls Tryz.prog 58 #[p.v] W fun e w'=>e= .returned (.int .i64 z)/\Below W.heap.size W w'
 len:∀ W,Below w.heap.size w W->Calls Tryz.prog 85 #[p.v] W fun e w'=>e= .returned (.int .i64 (n:Nat))/\Below W.heap.size W w'
theorem ClsV.up {w w':World}{p:V8}{z:Int}{n:Nat} (h:ClsV w p z n) (hb:Below w.heap.size w w'):ClsV w' p z n:=⟨fun W hw=>h.cls W (bel_both hb hw),fun W hw=>h.len W (bel_both hb hw)⟩
def ZeroE (w:World) (E:Int) (e:Ending) (w':World):Prop:=e= .returned (.tuple #[vecV 0 vnil 0 vnil vnil vnil vnil vnil,.int .i64 E])/\Below w.heap.size w w'
theorem into_cls (p:V8) (z:Int) (n:Nat) (hz:z≠0) (hk:p.k≠1) (w:World) (hc:ClsV w p z n) :
  Calls Tryz.prog 216 #[p.v,.int .i64 1] w (NoVec w):=by
 have HC:=Lib.hid hc.cls
 have HS0:=Lib.hid (St.new w p.k (.slice p.b.1 p.b.2.1 p.b.2.2) p.bn (.slice p.s.1 p.s.2.1 p.s.2.2) (.slice p.i.1 p.i.2.1 p.i.2.2) (.slice p.f.1 p.f.2.1 p.f.2.2) (.slice p.c.1 p.c.2.1 p.c.2.2) (.slice p.x.1 p.x.2.1 p.x.2.2))
 have hk1:(p.k==1)=false:=by simpa using hk
 have hz1:(z != 0)=true:=by simpa using hz
 clear hc hk hz
 go_enter Tryz.func216,Tryz.ntmps216
 go_wp2_with fail
 refine (vkind_any _ _ _ _ _ _ _ _ _).mono ?_
 rintro e w1 ⟨rfl,hb⟩
 have HS1:=Lib.hid (HS0.out.step hb)
 clear hb
 obtain ⟨h0,h1,h2,h3,h4,h5,h6,h7⟩:=HS1.out.box
 go_wp2_with fail
 refine (HC.out _ HS1.out.bel).mono ?_
 rintro e w2 ⟨rfl,hb⟩
 have HS2:=Lib.hid (HS1.out.step hb)
 clear hb h0 h1 h2 h3 h4 h5 h6 h7
 obtain ⟨⟨h0,h1,h2,h3,h4,h5,h6,h7⟩,hz⟩:=boxed_of HS2.out.res
 go_wp2
 refine bodyPost_ret (v := .tuple #[vecV 0 vnil 0 vnil vnil vnil vnil vnil,.bool false]) ?_ rfl ⟨rfl,below_set8 HS2.out.bel (Nat.le_succ _) _ _ _ _ _ _ _ _⟩
 exact ret_vec2 (fn:=Tryz.f216) (p:=4) (u:=5) rfl _ _ (w.heap.size+1) (by rfl) (set8_block HS2.out.res _ _ _ _ _ _ _ _)
theorem truths_cls (p:V8) (z:Int) (n:Nat) (hz:z≠0) (hk:p.k≠1) (w:World) (hc:ClsV w p z n) :
  Calls Tryz.prog 213 #[p.v] w fun e w'=>e= .returned (.tuple #[.agg #[vnil,.int .i64 0],.bool false])/\Below w.heap.size w w':=by
 have HS0:=Lib.hid (Sb.new w p)
 have HI:=Lib.hid (into_cls p z n hz hk _ (hc.up HS0.out.bel))
 unfold NoVec at HI
 clear hc hk hz
 go_enter Tryz.func213,Tryz.ntmps213
 obtain ⟨h0,h1,h2,h3,h4,h5,h6,h7⟩:=HS0.out.one
 go_wp2_with fail
 refine HI.out.mono ?_
 rintro e w1 ⟨rfl,hb1⟩
 have HS1:=Lib.hid (HS0.out.step hb1)
 clear hb1 h0 h1 h2 h3 h4 h5 h6 h7
 have HKE:=Lib.hid (set2_block HS1.out.res vnil (.int .i64 0))
 obtain ⟨hk0,hk1,hkf⟩:=pair_of HS1.out.res
 have z1:w.heap.size+1 < w1.heap.size:=HS1.out.sz
 go_wp2
 refine bodyPost_ret (v := .tuple #[.agg #[vnil,.int .i64 0],.bool false]) ?_ rfl ⟨rfl,bel_both (below_set2 HS1.out.bel (Nat.le_succ _) _ _) (bel1 _ _)⟩
 exact ret_bits2 (fn:=Tryz.f213) (p:=2) (u:=3) rfl _ _ (w.heap.size+1) (by rfl) ((Below.heap_alloc _ _ _ (lt_of_block HKE.out)).trans HKE.out)
theorem len_mid (p q:V8) (m n N:Nat) (z1 z2:Int) (w:World) (hL:lenP m n=some N) (hP:ClsV w p z1 m) (hQ:ClsV w q z2 n) :
  (∀ W,St2 w W p q->Calls Tryz.prog 85 #[p.v] W fun e w2=>e= .returned (.int .i64 (m:Nat))/\Below W.heap.size W w2) /\
  (∀ W,St2 w W p q->Calls Tryz.prog 85 #[q.v] W fun e w2=>e= .returned (.int .i64 (n:Nat))/\Below W.heap.size W w2) /\
  (∀ W,Calls Tryz.prog 211 #[.int .i64 (m:Int),.int .i64 (n:Int)] W fun e w'=>e= .returned (.tuple #[.int .i64 (N:Nat),.bool true])/\W=w') :=
 ⟨fun W hs=>hP.len W hs.bel,fun W hs=>hQ.len W hs.bel,fun W=>by
  have h:=length_any m n W
  rw [hL] at h
  exact h⟩
theorem aapply_cls (f:Int) (hf:1<=f) (hf2:f<=8) (p q:V8) (m n N:Nat) (z1 z2:Int) (w:World) (hz:z1≠0\/(z1=0/\z2≠0)) (hL:lenP m n=some N) (hP:ClsV w p z1 m) (hQ:ClsV w q z2 n) :
  Calls Tryz.prog 167 #[.int .i64 f,p.v,q.v] w (ZeroE w 24):=by
 obtain ⟨h1,h2,h3⟩:=len_mid p q m n N z1 z2 w hL hP hQ
 have HLP:=Lib.hid h1
 have HLQ:=Lib.hid h2
 have HLL:=Lib.hid h3
 have HCP:=Lib.hid (fun W (hs:St2 w W p q)=>hP.cls W hs.bel)
 have HCQ:=Lib.hid (fun W (hs:St2 w W p q)=>hQ.cls W hs.bel)
 have HS0:=Lib.hid (St2.new w p q)
 have HZ:=Lib.hid hz
 unfold ZeroE
 clear h1 h2 h3 hL hP hQ hz
 go_enter Tryz.func167,Tryz.ntmps167
 go_wp2_with fail
 obtain ⟨w0,hw0⟩:∃ w0,w0=((w.alloc p.o).alloc q.o).alloc (.cells zcells 37):=⟨_,rfl⟩
 rw [<- hw0] at HS0 ⊢
 clear hw0
 go_cut [8,9] from 19 (fun x y wx=>LenMid w p q N true x y wx)
 case first =>
  have hs0:=HS0.out.dr
  have hs00:=HS0.out
  go_region_held3 (fun W=>((W.cell? ⟨w.heap.size,0,none⟩=some (.int .i64 p.k)/\W.cell? ⟨w.heap.size,1,none⟩=some (.slice p.b.1 p.b.2.1 p.b.2.2)/\W.cell? ⟨w.heap.size,2,none⟩=some (.int .i64 p.bn)/\W.cell? ⟨w.heap.size,3,none⟩=some (.slice p.s.1 p.s.2.1 p.s.2.2)/\W.cell? ⟨w.heap.size,4,none⟩=some (.slice p.i.1 p.i.2.1 p.i.2.2)/\W.cell? ⟨w.heap.size,5,none⟩=some (.slice p.f.1 p.f.2.1 p.f.2.2)/\W.cell? ⟨w.heap.size,6,none⟩=some (.slice p.c.1 p.c.2.1 p.c.2.2)/\W.cell? ⟨w.heap.size,7,none⟩=some (.slice p.x.1 p.x.2.1 p.x.2.2))/\(W.cell? ⟨w.heap.size+1,0,none⟩=some (.int .i64 q.k)/\W.cell? ⟨w.heap.size+1,1,none⟩=some (.slice q.b.1 q.b.2.1 q.b.2.2)/\W.cell? ⟨w.heap.size+1,2,none⟩=some (.int .i64 q.bn)/\W.cell? ⟨w.heap.size+1,3,none⟩=some (.slice q.s.1 q.s.2.1 q.s.2.2)/\W.cell? ⟨w.heap.size+1,4,none⟩=some (.slice q.i.1 q.i.2.1 q.i.2.2)/\W.cell? ⟨w.heap.size+1,5,none⟩=some (.slice q.f.1 q.f.2.1 q.f.2.2)/\W.cell? ⟨w.heap.size+1,6,none⟩=some (.slice q.c.1 q.c.2.1 q.c.2.2)/\W.cell? ⟨w.heap.size+1,7,none⟩=some (.slice q.x.1 q.x.2.1 q.x.2.2)))/\St2 w W p q)
   (first | (with_reducible assumption) | (with_reducible (refine st2_s ?_);repeat (first | (with_reducible assumption) | (with_reducible refine St2.dr ?_))))
   (first
    | (go_at_call 211;(with_reducible refine (HLL.out _).mono ?_);rintro e w5 ⟨rfl,rfl⟩)
    | (go_at_call 85;(with_reducible refine (HLP.out _ ?_).mono ?_);exact St2.self (by repeat (first | (with_reducible assumption) | (with_reducible refine St2.dr ?_)));rintro e w1 ⟨rfl,hb1⟩;obtain ⟨hc1,hf1⟩:=bcell2 hb1;have hz1:=hb1.size;have hst1:St2 w w1 p q:=St2.step (by repeat (first | (with_reducible assumption) | (with_reducible refine St2.dr ?_))) hb1;clear hb1)
    | (go_at_call 85;(with_reducible refine (HLQ.out _ ?_).mono ?_);exact St2.self (by repeat (first | (with_reducible assumption) | (with_reducible refine St2.dr ?_)));rintro e w2 ⟨rfl,hb2⟩;obtain ⟨hc2,hf2⟩:=bcell2 hb2;have hz2:=hb2.size;have hst2:St2 w w2 p q:=St2.step (by repeat (first | (with_reducible assumption) | (with_reducible refine St2.dr ?_))) hb2;clear hb2))
  all_goals
   go_wp2
   go_meet
   first
    | (with_reducible exact lenMid_of hst2)
    | (with_reducible exact lenMid_of hst1)
 obtain ⟨rfl,rfl,hst⟩:=hcut
 have HST:=Lib.hid hst
 clear hst HS0 HLP HLQ HLL
 obtain ⟨h0,h1,h2,h3,h4,h5,h6,h7⟩:=HST.out.one
 rcases HZ.out with hz | ⟨rfl,hz⟩
 ·have z3:(z1 != 0)=true:=by simpa using hz
  clear HZ hz
  go_wp2_with fail
  refine (HCP.out _ HST.out).mono ?_
  rintro e w3 ⟨rfl,hb3⟩
  have HS3:=Lib.hid (HST.out.step hb3)
  clear hb3 h0 h1 h2 h3 h4 h5 h6 h7 HST
  obtain ⟨⟨h0,h1,h2,h3,h4,h5,h6,h7⟩,hz⟩:=boxed_of HS3.out.res
  go_wp2
  refine bodyPost_ret (v := .tuple #[vecV 0 vnil 0 vnil vnil vnil vnil vnil,.int .i64 24]) ?_ rfl ⟨rfl,below_set8 HS3.out.bel (Nat.le_add_right _ 2) _ _ _ _ _ _ _ _⟩
  exact ret_vec2 (fn:=Tryz.f167) (p:=6) (u:=7) rfl _ _ (w.heap.size+2) (by rfl) (set8_block HS3.out.res _ _ _ _ _ _ _ _)
 ·have z3:(z2 != 0)=true:=by simpa using hz
  clear HZ hz
  go_wp2_with fail
  refine (HCP.out _ HST.out).mono ?_
  rintro e w3 ⟨rfl,hb3⟩
  have HS3:=Lib.hid (HST.out.step hb3)
  clear hb3 h0 h1 h2 h3 h4 h5 h6 h7 HST
  obtain ⟨h0,h1,h2,h3,h4,h5,h6,h7⟩:=HS3.out.two
  go_wp2_with fail
  refine (HCQ.out _ HS3.out).mono ?_
  rintro e w4 ⟨rfl,hb4⟩
  have HS4:=Lib.hid (HS3.out.step hb4)
  clear hb4 h0 h1 h2 h3 h4 h5 h6 h7 HS3
  obtain ⟨⟨h0,h1,h2,h3,h4,h5,h6,h7⟩,hz⟩:=boxed_of HS4.out.res
  go_wp2
  refine bodyPost_ret (v := .tuple #[vecV 0 vnil 0 vnil vnil vnil vnil vnil,.int .i64 24]) ?_ rfl ⟨rfl,below_set8 HS4.out.bel (Nat.le_add_right _ 2) _ _ _ _ _ _ _ _⟩
  exact ret_vec2 (fn:=Tryz.f167) (p:=6) (u:=7) rfl _ _ (w.heap.size+2) (by rfl) (set8_block HS4.out.res _ _ _ _ _ _ _ _)
end Go.Proofs.YtiahegjdkejjpaaGreatDoor
