/- The walk of flat.Pick at numbers, all places in .. Conditions: as each theorem says. -/
import Derived.Test.YtbakjaliponbbaaGreatDoorMg19
import Derived.Test.YtbakjaliponbbaaGreatDoorMg06
import Derived.Test.YtbakjaliponbbaaGreatDoorMg07
set_option maxRecDepth 100000
set_option maxHeartbeats 2000000
namespace Go.Proofs.YtbakjaliponbbaaGreatDoor
open Go Go.RowKit Go.Proofs Fl
theorem rank_flag (t:Bool):rankF (flagF t)=1:=by
 rw [flagF_fi,rankF_fi (good_flag _)]
 cases t <;> rfl
theorem leastF_bits (F:Nat->Nat) (n:Nat) (L:Nat->Bool) (h:∀ j,j < n->F j=flagF (L j)):leastF F n=1:=by
 induction n with
 | zero=>rfl
 | succ n ih =>
  have h1:=ih fun j hj=>h j (by omega)
  show max (leastF F n) (rankF (F n))=1
  rw [h1,h n (by omega),rank_flag]
  rfl
structure Pk1 (w:World) (k:Int) (b:Sl) (bn:Int) (s i f c x:Sl) (G:Nat) (e:TypeId) (g:Nat->Value) (z:Value) (m a:Nat) (W:World):Prop where
 st:St w W k (.slice b.1 b.2.1 b.2.2) bn (.slice s.1 s.2.1 s.2.2) (.slice i.1 i.2.1 i.2.2) (.slice f.1 f.2.1 f.2.2) (.slice c.1 c.2.1 c.2.2) (.slice x.1 x.2.1 x.2.2)
 fill:Fill W (w.heap.size+2) G e g z m a
theorem Pk1.step {w W W':World}{k:Int}{b:Sl}{bn:Int}{s i f c x:Sl}{G:Nat}{e:TypeId}{g:Nat->Value}{z:Value}{m a:Nat} (h:Pk1 w k b bn s i f c x G e g z m a W) (hb:Below W.heap.size W W'):Pk1 w k b bn s i f c x G e g z m a W':=⟨h.st.step hb,h.fill.below hb⟩
theorem Pk1.put {w W:World}{k:Int}{b:Sl}{bn:Int}{s i f c x:Sl}{G:Nat}{e:TypeId}{g:Nat->Value}{z:Value}{m a:Nat} (h:Pk1 w k b bn s i f c x G e g z m a W) (ha:a < m){u:Value} (hu:g a=u):Pk1 w k b bn s i f c x G e g z m (a+1) (W.setCell ⟨G,a,none⟩ u):=by
 rw [<- hu]
 exact ⟨h.st.put h.fill.low.1 _,h.fill.put ha⟩
theorem pickBits_any (H:Nat->Prop) (b:Sl) (bn:Int) (s i f c x:Sl) (n m:Nat) (K:Nat->Nat) (va:Value) (w:World) (hH:∀ b,H b->b < w.heap.size) (hn:n<=1000000) (hm:m<=1000000) (L:Nat->Bool) (hb:BitsAt w b n L) (hbn:bn=(n:Int)) (hK:∀ j,j < m->K j < n) (hva:Reads1 w va ((List.range m).map fun j => .int .i64 (K j:Int))) :
  Calls Tryz.prog 227 #[vecW 1 b bn s i f c x,va] w (VecR H w (fun u W=>NumV u 1 m (fun j=>flagF (L (K j))) W)):=by
 obtain ⟨A,cap,rfl,hcell⟩:=reads_at hva
 subst hbn
 have HC:=Lib.hid hcell
 have HAT:=Lib.hid (fun W (hw:Below w.heap.size w W) j (hj:j < m)=>bitV_at (s := .slice b.1 b.2.1 b.2.2) (by omega) (hb.below hw).in (K j) (hK j hj))
 have HH:=Lib.hid hH
 have HPK:=Lib.hid (fun W=>packed_yes b (n:Int) (.slice s.1 s.2.1 s.2.2) (.slice i.1 i.2.1 i.2.2) (.slice f.1 f.2.1 f.2.2) (.slice c.1 c.2.1 c.2.2) (.slice x.1 x.2.1 x.2.2) W)
 obtain ⟨ff,hff⟩:∃ ff:Nat->Value,ff=fun j => .bool (L (K j)):=⟨_,rfl⟩
 have HFF:Hid (∀ j,ff j= .bool (L (K j))):=fun j=>by rw [hff]
 have HS0:=Lib.hid (St.new w 1 (.slice b.1 b.2.1 b.2.2) (n:Int) (.slice s.1 s.2.1 s.2.2) (.slice i.1 i.2.1 i.2.2) (.slice f.1 f.2.1 f.2.2) (.slice c.1 c.2.1 c.2.2) (.slice x.1 x.2.1 x.2.2))
 have hmk:=run_make_row' (P:=Tryz.prog) 37 4 (.bool false) 1 Tryz.underlying37 info_bool rfl .i64 .i64 m (by omega) (by omega)
 clear hff hva hb hK hH hcell
 go_enter Tryz.func227,Tryz.ntmps227
 go_wp2_with fail
 refine (HPK.out _).mono ?_
 rintro e w1 ⟨rfl,hb⟩
 have HS1:=Lib.hid ((HS0.out.step hb).al (.cells #[.slice b.1 b.2.1 b.2.2,.int .i64 (n:Int)] 52))
 have HV1:=Lib.hid (heap_alloc_new w1 (.cells #[.slice b.1 b.2.1 b.2.2,.int .i64 (n:Int)] 52))
 clear hb
 obtain ⟨W1,hW1⟩:∃ W1,W1=w1.alloc (.cells #[.slice b.1 b.2.1 b.2.2,.int .i64 (n:Int)] 52):=⟨_,rfl⟩
 have HWE:=Lib.hid hW1
 have hWs:W1.heap.size=w1.heap.size+1:=by rw [hW1];simp
 have HWS:=Lib.hid hWs
 rw [<- hW1] at HS1 HV1
 have HP0:Hid (Pk1 w 1 b (n:Int) s i f c x (w1.heap.size+1) 4 ff (.bool false) m 0 (W1.alloc (.cells (madeCells #[.bool false] m) 4))):=⟨HS1.out.al _,by
  have h:=Fill.made W1 (w.heap.size+2) HS1.out.sz 4 ff (.bool false) m (by unfold maxLen;omega)
  rw [HWS.out] at h
  exact h⟩
 have HV2:Hid ((W1.alloc (.cells (madeCells #[.bool false] m) 4)).heap[w1.heap.size]?=some (.cells #[.slice b.1 b.2.1 b.2.2,.int .i64 (n:Int)] 52)):=by unfold Hid;rw [Below.heap_alloc _ _ _ (lt_of_block HV1.out)];exact HV1.out
 clear hW1 hWs
 go_wp2
 rw [<- HWE.out]
 go_loopw [8,9,20] (fun _ _ j wr=>∃ a:Nat,a<=m/\j= .int .i64 (a:Int)/\Pk1 w 1 b (n:Int) s i f c x (w1.heap.size+1) 4 ff (.bool false) m a wr/\wr.heap[w1.heap.size]?=some (.cells #[.slice b.1 b.2.1 b.2.2,.int .i64 (n:Int)] 52)) (fun _ _ j _=>m - (intOf j).toNat)
 case atStart=>exact ⟨0,Nat.zero_le _,rfl,HP0.out,HV2.out⟩
 case round =>
  clear HP0 HV2
  obtain ⟨a,ha,rfl,hp,hv⟩:=hrel
  have HP:=Lib.hid hp
  have HV:=Lib.hid hv
  clear hp
  by_cases hlt:a < m
  ·have hlt2:(a:Int) < (m:Int):=by omega
   obtain ⟨ab,ao,rfl,hce⟩:=HC.out a hlt
   have hat:=cell_up HP.out.st.bel hce
   have HA:=Lib.hid (HAT.out wr HP.out.st.bel a hlt)
   have HFA:=Lib.hid (HFF.out a)
   obtain ⟨hv0,hv1,hvf⟩:=pair_of hv
   generalize L (K a)=y at HA HFA
   generalize K a=ka at HA hat
   clear hce hv
   go_wp2_with fail
   refine HA.out.mono ?_
   rintro e w3 ⟨rfl,hb3⟩
   have HP3:=Lib.hid (HP.out.step hb3)
   have HV3:=Lib.hid (show w3.heap[w1.heap.size]?=some (.cells #[.slice b.1 b.2.1 b.2.2,.int .i64 (n:Int)] 52) by rw [hb3.block _ (lt_of_block HV.out)];exact HV.out)
   have hc3:=HP3.out.fill.cell hlt
   have hz3:=HP3.out.fill.frozen a
   have hst:=fun md=>store_bool hc3 hz3 y md
   have HP4:=Lib.hid (HP3.out.put hlt HFA.out)
   have HV4:Hid ((w3.setCell ⟨w1.heap.size+1,a,none⟩ (.bool y)).heap[w1.heap.size]?=some (.cells #[.slice b.1 b.2.1 b.2.2,.int .i64 (n:Int)] 52)):=by unfold Hid;rw [Below.heap_setCell _ _ _ _ (by show w1.heap.size≠w1.heap.size+1;omega)];exact HV3.out
   clear hb3 hv0 hv1 hvf hat
   go_wp2
   go_roundw
   case rel=>exact ⟨a+1,by omega,by go_num,HP4.out,HV4.out⟩
   case measure=>simp [intOf];omega
  ·obtain rfl:a=m:=by omega
   have hge:¬ (a:Int) < (a:Int):=by omega
   have HPA:=Lib.hid (pack_any (w1.heap.size+1) 0 a a (fun j=>L (K j)) (by omega) (Nat.le_refl _) wr (fun i hi=>by
    rw [Nat.zero_add,HP.out.fill.done i hi (Nat.le_refl _),HFF.out]))
   clear hv
   go_wp2_with fail
   refine HPA.out.mono ?_
   rintro e w5 ⟨gg,rfl,hr5,hb5⟩
   have HS5:=Lib.hid (HP.out.st.step hb5)
   have HGW:Hid (wr.heap.size<=gg):=hr5.low.1
   have HGS:Hid (w.heap.size+2<=wr.heap.size):=HP.out.st.sz
   have HR5:=Lib.hid hr5
   clear hb5 hr5
   go_wp2_with fail
   refine (vbits_any _ _ _ _ _).mono ?_
   rintro e w6 ⟨rfl,hb6⟩
   have HS9:=Lib.hid (HS5.out.step hb6)
   have HR6:=Lib.hid (HR5.out.below hb6)
   clear hb6
   have HRE:=Lib.hid (set8_block HS9.out.res (.int .i64 1) (.slice (some ⟨gg,0,none⟩) ((a+63) / 64) ((a+63) / 64)) (.int .i64 (a:Int)) vnil vnil vnil vnil vnil)
   have HBE:=Lib.hid (below_set8 HS9.out.bel (Nat.le_succ _) (.int .i64 1) (.slice (some ⟨gg,0,none⟩) ((a+63) / 64) ((a+63) / 64)) (.int .i64 (a:Int)) vnil vnil vnil vnil vnil)
   have HKE:Hid (Keeps H (set8 w6 (w.heap.size+1) (.int .i64 1) (.slice (some ⟨gg,0,none⟩) ((a+63) / 64) ((a+63) / 64)) (.int .i64 (a:Int)) vnil vnil vnil vnil vnil) (NumV (vecW 1 (some ⟨gg,0,none⟩,(a+63) / 64,(a+63) / 64) (a:Int) (none,0,0) (none,0,0) (none,0,0) (none,0,0) (none,0,0)) 1 a (fun j=>flagF (L (K j))))):=by
    have h1:Keeps (fun j=>H j\/j=w.heap.size+1) w6 (fun W=>Reads1 W (.slice (some ⟨gg,0,none⟩) ((a+63) / 64) ((a+63) / 64)) ((List.range ((a+63) / 64)).map fun j => .int .u64 (packW (fun j=>L (K j)) a j:Nat))) :=
     Own1.keepsH HR6.out (fun j e=>by
      have h1:=HGW.out
      have h2:=HGS.out
      rcases e with e | e
      ·have:=HH.out j e;omega
      ·omega)
    refine ((h1.imp fun W' h=>numV_bits (by omega) ⟨_,rfl,⟨gg,0,_,rfl,fun j hj=>?_⟩⟩).set8 (.inr rfl) _ _ _ _ _ _ _ _).sub fun _ _ e => .inl e
    exact reads_cell h j hj
   clear HR5 HR6
   obtain ⟨⟨h0,h1,h2,h3,h4,h5,h6,h7⟩,hz⟩:=boxed_of HS9.out.res
   go_wp2
   refine bodyPost_ret (ret_vec (fn:=Tryz.f227) (p:=4) rfl _ _ (w.heap.size+1) (by rfl) HRE.out) rfl ?_
   exact ⟨1,(some ⟨gg,0,none⟩,(a+63) / 64,(a+63) / 64),(a:Int),(none,0,0),(none,0,0),(none,0,0),(none,0,0),(none,0,0),rfl,HKE.out,HBE.out⟩
theorem pick_1 (H:Nat->Prop) (b:Sl) (bn:Int) (s i f c x:Sl) (n m:Nat) (F:Nat->Nat) (K:Nat->Nat) (va:Value) (w:World) (hH:∀ b,H b->b < w.heap.size) (hn:n<=1000000) (hm:m<=1000000) (hv:Keeps H w (NumV (vecW 1 b bn s i f c x) 1 n F)) (hK:∀ j,j < m->K j < n) (hva:Reads1 w va ((List.range m).map fun j => .int .i64 (K j:Int))) :
  Calls Tryz.prog 192 #[vecW 1 b bn s i f c x,va] w (VecR H w (fun u W=>NumV u (leastF (fun j=>F (K j)) m:Nat) m (fun j=>F (K j)) W)):=by
 obtain ⟨hbn,L,hbt,hFL⟩:=NumV.bits hv.now
 have hleast:leastF (fun j=>F (K j)) m=1:=leastF_bits _ m (fun j=>L (K j)) fun j hj=>hFL _ (hK j hj)
 rw [hleast]
 have hsame:∀ j,j < m->(fun j=>F (K j)) j=(fun j=>flagF (L (K j))) j:=fun j hj=>hFL _ (hK j hj)
 have HSM:=Lib.hid hsame
 obtain ⟨A,cap,hAc,hcell⟩:=reads_at hva
 have HPB:=Lib.hid (fun W (hb:Below w.heap.size w W)=>pickBits_any (fun j=>H j\/j=w.heap.size+1) b bn s i f c x n m K va W)
 have HHH:=Lib.hid (fun W (hb:Below w.heap.size w W) (hz:w.heap.size+2<=W.heap.size)=>HPB.out W hb (fun j e=>by rcases e with e | e;(have:=hH j e;omega);omega) hn hm L (hbt.below hb) hbn hK (hva.below hb))
 subst hAc
 skip
 have HS0:=Lib.hid (St.new w 1 (.slice b.1 b.2.1 b.2.2) bn (.slice s.1 s.2.1 s.2.2) (.slice i.1 i.2.1 i.2.2) (.slice f.1 f.2.1 f.2.2) (.slice c.1 c.2.1 c.2.2) (.slice x.1 x.2.1 x.2.2))
 clear hv hK hva hH hcell hbt hFL hleast HPB hsame hbn
 go_enter Tryz.func192,Tryz.ntmps192
 go_wp2_with fail
 refine (vkind_any 1 _ _ _ _ _ _ _ _).mono ?_
 rintro e w1 ⟨rfl,hb⟩
 have HS1:=Lib.hid (HS0.out.step hb)
 clear hb
 obtain ⟨h0,h1,h2,h3,h4,h5,h6,h7⟩:=HS1.out.box
 go_wp2_with fail
 refine (HHH.out _ HS1.out.bel HS1.out.sz).mono ?_
 rintro e w5 ⟨k5,b5,bn5,s5,i5,f5,c5,x5,rfl,hk,hb⟩
 have HS9:=Lib.hid (HS1.out.step hb)
 have HK5:=Lib.hid hk
 clear hb hk h0 h1 h2 h3 h4 h5 h6 h7
 have HKF:=Lib.hid (((HK5.out).set8 (.inr rfl) (.int .i64 k5) (.slice b5.1 b5.2.1 b5.2.2) (.int .i64 bn5) (.slice s5.1 s5.2.1 s5.2.2) (.slice i5.1 i5.2.1 i5.2.2) (.slice f5.1 f5.2.1 f5.2.2) (.slice c5.1 c5.2.1 c5.2.2) (.slice x5.1 x5.2.1 x5.2.2)).sub (H':=H) fun _ _ e => .inl e)
 have HBE:=Lib.hid (below_set8 HS9.out.bel (Nat.le_succ _) (.int .i64 k5) (.slice b5.1 b5.2.1 b5.2.2) (.int .i64 bn5) (.slice s5.1 s5.2.1 s5.2.2) (.slice i5.1 i5.2.1 i5.2.2) (.slice f5.1 f5.2.1 f5.2.2) (.slice c5.1 c5.2.1 c5.2.2) (.slice x5.1 x5.2.1 x5.2.2))
 have HRE:=Lib.hid (set8_block HS9.out.res (.int .i64 k5) (.slice b5.1 b5.2.1 b5.2.2) (.int .i64 bn5) (.slice s5.1 s5.2.1 s5.2.2) (.slice i5.1 i5.2.1 i5.2.2) (.slice f5.1 f5.2.1 f5.2.2) (.slice c5.1 c5.2.1 c5.2.2) (.slice x5.1 x5.2.1 x5.2.2))
 obtain ⟨⟨h0,h1,h2,h3,h4,h5,h6,h7⟩,hz⟩:=boxed_of HS9.out.res
 go_wp2
 refine bodyPost_ret (ret_vec (fn:=Tryz.f192) (p:=4) rfl _ _ (w.heap.size+1) (by rfl) HRE.out) rfl ?_
 exact ⟨k5,b5,bn5,s5,i5,f5,c5,x5,rfl,HKF.out.imp fun W h=>h.congr HSM.out,HBE.out⟩
theorem pick_2 (H:Nat->Prop) (b:Sl) (bn:Int) (s i f c x:Sl) (n m:Nat) (F:Nat->Nat) (K:Nat->Nat) (va:Value) (w:World) (hH:∀ b,H b->b < w.heap.size) (hm:m<=1000000) (hv:Keeps H w (NumV (vecW 2 b bn s i f c x) 2 n F)) (hK:∀ j,j < m->K j < n) (hva:Reads1 w va ((List.range m).map fun j => .int .i64 (K j:Int))) :
  Calls Tryz.prog 192 #[vecW 2 b bn s i f c x,va] w (VecR H w (fun u W=>NumV u (leastF (fun j=>F (K j)) m:Nat) m (fun j=>F (K j)) W)):=by
 have hz:∀ j,j < n->Good (zOf (F j))/\F j=fi (zOf (F j)):=fun j hj=>by
  obtain ⟨z,hg,e⟩:=hv.now.ints (by decide) j hj
  have e2:zOf (F j)=z:=by rw [e];exact zOf_of (wholeP_fi hg)
  rw [e2];exact ⟨hg,e⟩
 have HWH:=Lib.hid (fun W (hb:Below w.heap.size w W) j (hj:j < m)=>(hv.step hb).now.wholeI (by decide) (K j) (hK j hj) (zOf (F (K j))) (hz _ (hK j hj)).1 (hz _ (hK j hj)).2)
 have HGO:Hid (∀ j,j < m->Good (zOf (F (K j)))):=fun j hj=>(hz _ (hK j hj)).1
 have HFO:Hid (∀ j,j < m->F (K j)=fi (zOf (F (K j)))):=fun j hj=>(hz _ (hK j hj)).2
 obtain ⟨A,cap,rfl,hcell⟩:=reads_at hva
 have HC:=Lib.hid hcell
 have HH:=Lib.hid hH
 obtain ⟨ff,hff⟩:∃ ff:Nat->Value,ff=fun j => .int .i64 (zOf (F (K j))):=⟨_,rfl⟩
 have HFF:Hid (∀ j,ff j= .int .i64 (zOf (F (K j)))):=fun j=>by rw [hff]
 have HFE:=Lib.hid hff
 have hmk:=run_make_row' (P:=Tryz.prog) 54 2 (.int .i64 0) 8 Tryz.underlying54 info_i64 rfl .i64 .i64 m (by omega) (by omega)
 have HS0:=Lib.hid (St.new w 2 (.slice b.1 b.2.1 b.2.2) bn (.slice s.1 s.2.1 s.2.2) (.slice i.1 i.2.1 i.2.2) (.slice f.1 f.2.1 f.2.2) (.slice c.1 c.2.1 c.2.2) (.slice x.1 x.2.1 x.2.2))
 clear hff hv hK hva hH hcell hz
 go_enter Tryz.func192,Tryz.ntmps192
 go_wp2_with fail
 refine (vkind_any 2 _ _ _ _ _ _ _ _).mono ?_
 rintro e w1 ⟨rfl,hb⟩
 have HS1:=Lib.hid (HS0.out.step hb)
 clear hb
 have HP0:Hid (Pk1 w 2 b bn s i f c x w1.heap.size 2 ff (.int .i64 0) m 0 (w1.alloc (.cells (madeCells #[.int .i64 0] m) 2))):=⟨HS1.out.al _,Fill.made w1 (w.heap.size+2) HS1.out.sz 2 ff (.int .i64 0) m (by unfold maxLen;omega)⟩
 go_wp2
 go_loopw [6,7,30] (fun _ _ j wr=>∃ a:Nat,a<=m/\j= .int .i64 (a:Int)/\Pk1 w 2 b bn s i f c x w1.heap.size 2 ff (.int .i64 0) m a wr) (fun _ _ j _=>m - (intOf j).toNat)
 case atStart=>exact ⟨0,Nat.zero_le _,rfl,HP0.out⟩
 case round =>
  clear HP0
  obtain ⟨a,ha,rfl,hp⟩:=hrel
  have HP:=Lib.hid hp
  clear hp
  by_cases hlt:a < m
  ·have hlt2:(a:Int) < (m:Int):=by omega
   obtain ⟨ab,ao,rfl,hce⟩:=HC.out a hlt
   have hat:=cell_up HP.out.st.bel hce
   have HA:=Lib.hid (HWH.out wr HP.out.st.bel a hlt)
   have HFA:=Lib.hid (HFF.out a)
   obtain ⟨h0,h1,h2,h3,h4,h5,h6,h7⟩:=HP.out.st.box
   generalize zOf (F (K a))=y at HA HFA
   generalize K a=ka at HA hat
   clear hce
   go_wp2_with fail
   refine HA.out.mono ?_
   rintro e w3 ⟨rfl,hb3⟩
   have HP3:=Lib.hid (HP.out.step hb3)
   have hc3:=HP3.out.fill.cell hlt
   have hz3:=HP3.out.fill.frozen a
   have HP4:=Lib.hid (HP3.out.put hlt HFA.out)
   clear hb3 hat h0 h1 h2 h3 h4 h5 h6 h7
   go_wp2
   go_roundw
   case rel=>exact ⟨a+1,by omega,by go_num,HP4.out⟩
   case measure=>simp [intOf];omega
  ·obtain rfl:a=m:=by omega
   have hge:¬ (a:Int) < (a:Int):=by omega
   have HI:=Lib.hid (ints_any (l:=(List.range a).map fun j=>zOf (F (K j))) (by rw [List.map_map];have h:=HP.out.fill.own.reads;rw [HFE.out] at h;exact h) (by simpa using hm) (fun y hy=>by
    obtain ⟨j,hj,rfl⟩:=List.mem_map.1 hy
    exact HGO.out j (List.mem_range.1 hj)))
   go_wp2_with fail
   refine HI.out.mono ?_
   rintro e w2 ⟨u,rfl,hou,hb2⟩
   rw [List.map_map] at hou
   have HS2:=Lib.hid (HP.out.st.step hb2)
   have HU:=Lib.hid (hou.lower (show w.heap.size+2<=wr.heap.size from HP.out.st.sz))
   obtain ⟨ua,un,uc,hu⟩:∃ a n c,u= .slice a n c:=by obtain ⟨a,c,e⟩:=hou.reads.len;exact ⟨a,_,c,e⟩
   subst hu
   clear hb2 hou
   have HS3:=Lib.hid (HS2.out.al (.cells #[.int .i64 3,vnil,.int .i64 0,vnil,.slice ua un uc,vnil,vnil,vnil] 57))
   have HKV2:Hid (Keeps (fun j=>H j\/j=w.heap.size+1) (w2.alloc (.cells #[.int .i64 3,vnil,.int .i64 0,vnil,.slice ua un uc,vnil,vnil,vnil] 57)) (NumV (vecW 3 (none,0,0) 0 (none,0,0) (ua,un,uc) (none,0,0) (none,0,0) (none,0,0)) 3 a (fun j=>F (K j)))) :=
    ((HU.out.keepsH (fun j e=>by rcases e with e | e;have:=HH.out j e;omega;omega)).imp fun W' h2=>(numV_ints ⟨⟨_,rfl,h2⟩,HGO.out⟩).congr HFO.out).step (bel1 w2 _)
   have HQ3:=Lib.hid (squeeze_num (fun j=>H j\/j=w.heap.size+1) 3 (none,0,0) 0 (none,0,0) (ua,un,uc) (none,0,0) (none,0,0) (none,0,0) a (fun j=>F (K j)) _ (fun j e=>by
    have h1:=HS3.out.sz
    rcases e with e | e
    ·have:=HH.out j e;omega
    ·omega) hm HKV2.out)
   go_wp2_with fail
   refine HQ3.out.mono ?_
   rintro e w4 ⟨k5,b5,bn5,s5,i5,f5,c5,x5,rfl,hk5,hb4⟩
   have HS9:=Lib.hid (HS3.out.step hb4)
   have HK5:=Lib.hid hk5
   clear hb4 hk5
   have HKF:=Lib.hid (((HK5.out).set8 (.inr rfl) (.int .i64 k5) (.slice b5.1 b5.2.1 b5.2.2) (.int .i64 bn5) (.slice s5.1 s5.2.1 s5.2.2) (.slice i5.1 i5.2.1 i5.2.2) (.slice f5.1 f5.2.1 f5.2.2) (.slice c5.1 c5.2.1 c5.2.2) (.slice x5.1 x5.2.1 x5.2.2)).sub (H':=H) fun _ _ e => .inl e)
   have HBE:=Lib.hid (below_set8 HS9.out.bel (Nat.le_succ _) (.int .i64 k5) (.slice b5.1 b5.2.1 b5.2.2) (.int .i64 bn5) (.slice s5.1 s5.2.1 s5.2.2) (.slice i5.1 i5.2.1 i5.2.2) (.slice f5.1 f5.2.1 f5.2.2) (.slice c5.1 c5.2.1 c5.2.2) (.slice x5.1 x5.2.1 x5.2.2))
   have HRE:=Lib.hid (set8_block HS9.out.res (.int .i64 k5) (.slice b5.1 b5.2.1 b5.2.2) (.int .i64 bn5) (.slice s5.1 s5.2.1 s5.2.2) (.slice i5.1 i5.2.1 i5.2.2) (.slice f5.1 f5.2.1 f5.2.2) (.slice c5.1 c5.2.1 c5.2.2) (.slice x5.1 x5.2.1 x5.2.2))
   obtain ⟨⟨h0,h1,h2,h3,h4,h5,h6,h7⟩,hz⟩:=boxed_of HS9.out.res
   go_wp2
   refine bodyPost_ret (ret_vec (fn:=Tryz.f192) (p:=4) rfl _ _ (w.heap.size+1) (by rfl) HRE.out) rfl ?_
   exact ⟨k5,b5,bn5,s5,i5,f5,c5,x5,rfl,HKF.out,HBE.out⟩
theorem pick_3 (H:Nat->Prop) (b:Sl) (bn:Int) (s i f c x:Sl) (n m:Nat) (F:Nat->Nat) (K:Nat->Nat) (va:Value) (w:World) (hH:∀ b,H b->b < w.heap.size) (hm:m<=1000000) (hv:Keeps H w (NumV (vecW 3 b bn s i f c x) 3 n F)) (hK:∀ j,j < m->K j < n) (hva:Reads1 w va ((List.range m).map fun j => .int .i64 (K j:Int))) :
  Calls Tryz.prog 192 #[vecW 3 b bn s i f c x,va] w (VecR H w (fun u W=>NumV u (leastF (fun j=>F (K j)) m:Nat) m (fun j=>F (K j)) W)):=by
 have hz:∀ j,j < n->Good (zOf (F j))/\F j=fi (zOf (F j)):=fun j hj=>by
  obtain ⟨z,hg,e⟩:=hv.now.ints (by decide) j hj
  have e2:zOf (F j)=z:=by rw [e];exact zOf_of (wholeP_fi hg)
  rw [e2];exact ⟨hg,e⟩
 have HWH:=Lib.hid (fun W (hb:Below w.heap.size w W) j (hj:j < m)=>(hv.step hb).now.wholeI (by decide) (K j) (hK j hj) (zOf (F (K j))) (hz _ (hK j hj)).1 (hz _ (hK j hj)).2)
 have HGO:Hid (∀ j,j < m->Good (zOf (F (K j)))):=fun j hj=>(hz _ (hK j hj)).1
 have HFO:Hid (∀ j,j < m->F (K j)=fi (zOf (F (K j)))):=fun j hj=>(hz _ (hK j hj)).2
 obtain ⟨A,cap,rfl,hcell⟩:=reads_at hva
 have HC:=Lib.hid hcell
 have HH:=Lib.hid hH
 obtain ⟨ff,hff⟩:∃ ff:Nat->Value,ff=fun j => .int .i64 (zOf (F (K j))):=⟨_,rfl⟩
 have HFF:Hid (∀ j,ff j= .int .i64 (zOf (F (K j)))):=fun j=>by rw [hff]
 have HFE:=Lib.hid hff
 have hmk:=run_make_row' (P:=Tryz.prog) 54 2 (.int .i64 0) 8 Tryz.underlying54 info_i64 rfl .i64 .i64 m (by omega) (by omega)
 have HS0:=Lib.hid (St.new w 3 (.slice b.1 b.2.1 b.2.2) bn (.slice s.1 s.2.1 s.2.2) (.slice i.1 i.2.1 i.2.2) (.slice f.1 f.2.1 f.2.2) (.slice c.1 c.2.1 c.2.2) (.slice x.1 x.2.1 x.2.2))
 clear hff hv hK hva hH hcell hz
 go_enter Tryz.func192,Tryz.ntmps192
 go_wp2_with fail
 refine (vkind_any 3 _ _ _ _ _ _ _ _).mono ?_
 rintro e w1 ⟨rfl,hb⟩
 have HS1:=Lib.hid (HS0.out.step hb)
 clear hb
 have HP0:Hid (Pk1 w 3 b bn s i f c x w1.heap.size 2 ff (.int .i64 0) m 0 (w1.alloc (.cells (madeCells #[.int .i64 0] m) 2))):=⟨HS1.out.al _,Fill.made w1 (w.heap.size+2) HS1.out.sz 2 ff (.int .i64 0) m (by unfold maxLen;omega)⟩
 go_wp2
 go_loopw [6,7,30] (fun _ _ j wr=>∃ a:Nat,a<=m/\j= .int .i64 (a:Int)/\Pk1 w 3 b bn s i f c x w1.heap.size 2 ff (.int .i64 0) m a wr) (fun _ _ j _=>m - (intOf j).toNat)
 case atStart=>exact ⟨0,Nat.zero_le _,rfl,HP0.out⟩
 case round =>
  clear HP0
  obtain ⟨a,ha,rfl,hp⟩:=hrel
  have HP:=Lib.hid hp
  clear hp
  by_cases hlt:a < m
  ·have hlt2:(a:Int) < (m:Int):=by omega
   obtain ⟨ab,ao,rfl,hce⟩:=HC.out a hlt
   have hat:=cell_up HP.out.st.bel hce
   have HA:=Lib.hid (HWH.out wr HP.out.st.bel a hlt)
   have HFA:=Lib.hid (HFF.out a)
   obtain ⟨h0,h1,h2,h3,h4,h5,h6,h7⟩:=HP.out.st.box
   generalize zOf (F (K a))=y at HA HFA
   generalize K a=ka at HA hat
   clear hce
   go_wp2_with fail
   refine HA.out.mono ?_
   rintro e w3 ⟨rfl,hb3⟩
   have HP3:=Lib.hid (HP.out.step hb3)
   have hc3:=HP3.out.fill.cell hlt
   have hz3:=HP3.out.fill.frozen a
   have HP4:=Lib.hid (HP3.out.put hlt HFA.out)
   clear hb3 hat h0 h1 h2 h3 h4 h5 h6 h7
   go_wp2
   go_roundw
   case rel=>exact ⟨a+1,by omega,by go_num,HP4.out⟩
   case measure=>simp [intOf];omega
  ·obtain rfl:a=m:=by omega
   have hge:¬ (a:Int) < (a:Int):=by omega
   have HI:=Lib.hid (ints_any (l:=(List.range a).map fun j=>zOf (F (K j))) (by rw [List.map_map];have h:=HP.out.fill.own.reads;rw [HFE.out] at h;exact h) (by simpa using hm) (fun y hy=>by
    obtain ⟨j,hj,rfl⟩:=List.mem_map.1 hy
    exact HGO.out j (List.mem_range.1 hj)))
   go_wp2_with fail
   refine HI.out.mono ?_
   rintro e w2 ⟨u,rfl,hou,hb2⟩
   rw [List.map_map] at hou
   have HS2:=Lib.hid (HP.out.st.step hb2)
   have HU:=Lib.hid (hou.lower (show w.heap.size+2<=wr.heap.size from HP.out.st.sz))
   obtain ⟨ua,un,uc,hu⟩:∃ a n c,u= .slice a n c:=by obtain ⟨a,c,e⟩:=hou.reads.len;exact ⟨a,_,c,e⟩
   subst hu
   clear hb2 hou
   have HS3:=Lib.hid (HS2.out.al (.cells #[.int .i64 3,vnil,.int .i64 0,vnil,.slice ua un uc,vnil,vnil,vnil] 57))
   have HKV2:Hid (Keeps (fun j=>H j\/j=w.heap.size+1) (w2.alloc (.cells #[.int .i64 3,vnil,.int .i64 0,vnil,.slice ua un uc,vnil,vnil,vnil] 57)) (NumV (vecW 3 (none,0,0) 0 (none,0,0) (ua,un,uc) (none,0,0) (none,0,0) (none,0,0)) 3 a (fun j=>F (K j)))) :=
    ((HU.out.keepsH (fun j e=>by rcases e with e | e;have:=HH.out j e;omega;omega)).imp fun W' h2=>(numV_ints ⟨⟨_,rfl,h2⟩,HGO.out⟩).congr HFO.out).step (bel1 w2 _)
   have HQ3:=Lib.hid (squeeze_num (fun j=>H j\/j=w.heap.size+1) 3 (none,0,0) 0 (none,0,0) (ua,un,uc) (none,0,0) (none,0,0) (none,0,0) a (fun j=>F (K j)) _ (fun j e=>by
    have h1:=HS3.out.sz
    rcases e with e | e
    ·have:=HH.out j e;omega
    ·omega) hm HKV2.out)
   go_wp2_with fail
   refine HQ3.out.mono ?_
   rintro e w4 ⟨k5,b5,bn5,s5,i5,f5,c5,x5,rfl,hk5,hb4⟩
   have HS9:=Lib.hid (HS3.out.step hb4)
   have HK5:=Lib.hid hk5
   clear hb4 hk5
   have HKF:=Lib.hid (((HK5.out).set8 (.inr rfl) (.int .i64 k5) (.slice b5.1 b5.2.1 b5.2.2) (.int .i64 bn5) (.slice s5.1 s5.2.1 s5.2.2) (.slice i5.1 i5.2.1 i5.2.2) (.slice f5.1 f5.2.1 f5.2.2) (.slice c5.1 c5.2.1 c5.2.2) (.slice x5.1 x5.2.1 x5.2.2)).sub (H':=H) fun _ _ e => .inl e)
   have HBE:=Lib.hid (below_set8 HS9.out.bel (Nat.le_succ _) (.int .i64 k5) (.slice b5.1 b5.2.1 b5.2.2) (.int .i64 bn5) (.slice s5.1 s5.2.1 s5.2.2) (.slice i5.1 i5.2.1 i5.2.2) (.slice f5.1 f5.2.1 f5.2.2) (.slice c5.1 c5.2.1 c5.2.2) (.slice x5.1 x5.2.1 x5.2.2))
   have HRE:=Lib.hid (set8_block HS9.out.res (.int .i64 k5) (.slice b5.1 b5.2.1 b5.2.2) (.int .i64 bn5) (.slice s5.1 s5.2.1 s5.2.2) (.slice i5.1 i5.2.1 i5.2.2) (.slice f5.1 f5.2.1 f5.2.2) (.slice c5.1 c5.2.1 c5.2.2) (.slice x5.1 x5.2.1 x5.2.2))
   obtain ⟨⟨h0,h1,h2,h3,h4,h5,h6,h7⟩,hz⟩:=boxed_of HS9.out.res
   go_wp2
   refine bodyPost_ret (ret_vec (fn:=Tryz.f192) (p:=4) rfl _ _ (w.heap.size+1) (by rfl) HRE.out) rfl ?_
   exact ⟨k5,b5,bn5,s5,i5,f5,c5,x5,rfl,HKF.out,HBE.out⟩
theorem from_any (v:V8) (j y:Nat) (w:World) (hN:∀ W,Below w.heap.size w W->Calls Tryz.prog 138 #[v.v,.int .i64 (j:Nat)] W fun e w2=>e= .returned (.float .f64 y)/\Below W.heap.size W w2) :
  Calls Tryz.prog 229 #[v.v,.int .i64 (j:Nat)] w fun e w'=>e= .returned (.float .f64 y)/\Below w.heap.size w w':=by
 have HB:=Lib.hid (bel1 w v.o)
 have HN:=Lib.hid (hN _ HB.out)
 clear hN
 go_enter Tryz.func229,Tryz.ntmps229
 go_wp2_with fail
 refine HN.out.mono ?_
 rintro e w1 ⟨rfl,hb⟩
 have HB1:=Lib.hid (bel_both HB.out hb)
 clear hb
 go_wp2
 go_ret
 exact ⟨rfl,HB1.out⟩
theorem pick_4 (H:Nat->Prop) (b:Sl) (bn:Int) (s i f c x:Sl) (n m:Nat) (F:Nat->Nat) (K:Nat->Nat) (va:Value) (w:World) (hH:∀ b,H b->b < w.heap.size) (hm:m<=1000000) (hv:Keeps H w (NumV (vecW 4 b bn s i f c x) 4 n F)) (hK:∀ j,j < m->K j < n) (hva:Reads1 w va ((List.range m).map fun j => .int .i64 (K j:Int))) :
  Calls Tryz.prog 192 #[vecW 4 b bn s i f c x,va] w (VecR H w (fun u W=>NumV u (leastF (fun j=>F (K j)) m:Nat) m (fun j=>F (K j)) W)):=by
 have HWH:=Lib.hid (fun W (hb:Below w.heap.size w W) j (hj:j < m)=>from_any ⟨4,b,bn,s,i,f,c,x⟩ (K j) (F (K j)) W (fun W' hb'=>(hv.step (bel_both hb hb')).now.num (K j) (hK j hj)))
 have HTF:Hid (∀ j,j < m->TF (F (K j))):=fun j hj=>hv.now.tf _ (hK j hj)
 obtain ⟨A,cap,rfl,hcell⟩:=reads_at hva
 have HC:=Lib.hid hcell
 have HH:=Lib.hid hH
 obtain ⟨ff,hff⟩:∃ ff:Nat->Value,ff=fun j => .float .f64 (F (K j)):=⟨_,rfl⟩
 have HFF:Hid (∀ j,ff j= .float .f64 (F (K j))):=fun j=>by rw [hff]
 have HFE:=Lib.hid hff
 have hmk:=run_make_row' (P:=Tryz.prog) 26 96 (.float .f64 0) 8 Tryz.underlying26 info_f64 rfl .i64 .i64 m (by omega) (by omega)
 have HS0:=Lib.hid (St.new w 4 (.slice b.1 b.2.1 b.2.2) bn (.slice s.1 s.2.1 s.2.2) (.slice i.1 i.2.1 i.2.2) (.slice f.1 f.2.1 f.2.2) (.slice c.1 c.2.1 c.2.2) (.slice x.1 x.2.1 x.2.2))
 clear hff hv hK hva hH hcell
 go_enter Tryz.func192,Tryz.ntmps192
 go_wp2_with fail
 refine (vkind_any 4 _ _ _ _ _ _ _ _).mono ?_
 rintro e w1 ⟨rfl,hb⟩
 have HS1:=Lib.hid (HS0.out.step hb)
 clear hb
 have HP0:Hid (Pk1 w 4 b bn s i f c x w1.heap.size 96 ff (.float .f64 0) m 0 (w1.alloc (.cells (madeCells #[.float .f64 0] m) 96))):=⟨HS1.out.al _,Fill.made w1 (w.heap.size+2) HS1.out.sz 96 ff (.float .f64 0) m (by unfold maxLen;omega)⟩
 go_wp2
 go_loopw [11,12,59] (fun _ _ j wr=>∃ a:Nat,a<=m/\j= .int .i64 (a:Int)/\Pk1 w 4 b bn s i f c x w1.heap.size 96 ff (.float .f64 0) m a wr) (fun _ _ j _=>m - (intOf j).toNat)
 case atStart=>exact ⟨0,Nat.zero_le _,rfl,HP0.out⟩
 case round =>
  clear HP0
  obtain ⟨a,ha,rfl,hp⟩:=hrel
  have HP:=Lib.hid hp
  clear hp
  by_cases hlt:a < m
  ·have hlt2:(a:Int) < (m:Int):=by omega
   obtain ⟨ab,ao,rfl,hce⟩:=HC.out a hlt
   have hat:=cell_up HP.out.st.bel hce
   have HA:=Lib.hid (HWH.out wr HP.out.st.bel a hlt)
   have HFA:=Lib.hid (HFF.out a)
   obtain ⟨h0,h1,h2,h3,h4,h5,h6,h7⟩:=HP.out.st.box
   generalize F (K a)=y at HA HFA
   generalize K a=ka at HA hat
   clear hce
   go_wp2_with fail
   refine HA.out.mono ?_
   rintro e w3 ⟨rfl,hb3⟩
   have HP3:=Lib.hid (HP.out.step hb3)
   have hc3:=HP3.out.fill.cell hlt
   have hz3:=HP3.out.fill.frozen a
   have hst:=fun md=>store_float hc3 hz3 .f64 y md
   have HP4:=Lib.hid (HP3.out.put hlt HFA.out)
   clear hb3 hat h0 h1 h2 h3 h4 h5 h6 h7
   go_wp2
   go_roundw
   case rel=>exact ⟨a+1,by omega,by go_num,HP4.out⟩
   case measure=>simp [intOf];omega
  ·obtain rfl:a=m:=by omega
   have hge:¬ (a:Int) < (a:Int):=by omega
   have HQ3:=Lib.hid (numbers_any (fun j=>H j\/j=w.heap.size+1) (.slice (some ⟨w1.heap.size,0,none⟩) a a) a (fun j=>F (K j)) wr (fun j e=>by
    have h1:=HP.out.st.sz
    rcases e with e | e
    ·have:=HH.out j e;omega
    ·omega) (by have h:=HP.out.fill.own.reads;rw [HFE.out] at h;exact h) hm HTF.out)
   go_wp2_with fail
   refine HQ3.out.mono ?_
   rintro e w4 ⟨k5,b5,bn5,s5,i5,f5,c5,x5,rfl,hk5,hb4⟩
   have HS9:=Lib.hid ((HP.out.st.step hb4).al (.cells #[.int .i64 k5,.slice b5.1 b5.2.1 b5.2.2,.int .i64 bn5,.slice s5.1 s5.2.1 s5.2.2,.slice i5.1 i5.2.1 i5.2.2,.slice f5.1 f5.2.1 f5.2.2,.slice c5.1 c5.2.1 c5.2.2,.slice x5.1 x5.2.1 x5.2.2] 57))
   have HK5:=Lib.hid (hk5.step (bel1 w4 (.cells #[.int .i64 k5,.slice b5.1 b5.2.1 b5.2.2,.int .i64 bn5,.slice s5.1 s5.2.1 s5.2.2,.slice i5.1 i5.2.1 i5.2.2,.slice f5.1 f5.2.1 f5.2.2,.slice c5.1 c5.2.1 c5.2.2,.slice x5.1 x5.2.1 x5.2.2] 57)))
   clear hb4 hk5
   have HKF:=Lib.hid (((HK5.out).set8 (.inr rfl) (.int .i64 k5) (.slice b5.1 b5.2.1 b5.2.2) (.int .i64 bn5) (.slice s5.1 s5.2.1 s5.2.2) (.slice i5.1 i5.2.1 i5.2.2) (.slice f5.1 f5.2.1 f5.2.2) (.slice c5.1 c5.2.1 c5.2.2) (.slice x5.1 x5.2.1 x5.2.2)).sub (H':=H) fun _ _ e => .inl e)
   have HBE:=Lib.hid (below_set8 HS9.out.bel (Nat.le_succ _) (.int .i64 k5) (.slice b5.1 b5.2.1 b5.2.2) (.int .i64 bn5) (.slice s5.1 s5.2.1 s5.2.2) (.slice i5.1 i5.2.1 i5.2.2) (.slice f5.1 f5.2.1 f5.2.2) (.slice c5.1 c5.2.1 c5.2.2) (.slice x5.1 x5.2.1 x5.2.2))
   have HRE:=Lib.hid (set8_block HS9.out.res (.int .i64 k5) (.slice b5.1 b5.2.1 b5.2.2) (.int .i64 bn5) (.slice s5.1 s5.2.1 s5.2.2) (.slice i5.1 i5.2.1 i5.2.2) (.slice f5.1 f5.2.1 f5.2.2) (.slice c5.1 c5.2.1 c5.2.2) (.slice x5.1 x5.2.1 x5.2.2))
   obtain ⟨⟨h0,h1,h2,h3,h4,h5,h6,h7⟩,hz⟩:=boxed_of HS9.out.res
   go_wp2
   refine bodyPost_ret (ret_vec (fn:=Tryz.f192) (p:=4) rfl _ _ (w.heap.size+1) (by rfl) HRE.out) rfl ?_
   exact ⟨k5,b5,bn5,s5,i5,f5,c5,x5,rfl,HKF.out,HBE.out⟩
theorem pick_num (H:Nat->Prop) (p:V8) (n m:Nat) (F:Nat->Nat) (K:Nat->Nat) (va:Value) (w:World) (hH:∀ b,H b->b < w.heap.size) (hn:n<=1000000) (hm:m<=1000000) (hv:Keeps H w (NumV p.v p.k n F)) (hK:∀ j,j < m->K j < n) (hva:Reads1 w va ((List.range m).map fun j => .int .i64 (K j:Int))) :
  Calls Tryz.prog 192 #[p.v,va] w (VecR H w (fun u W=>NumV u (leastF (fun j=>F (K j)) m:Nat) m (fun j=>F (K j)) W)):=by
 obtain ⟨k,b,bn,s,i,f,c,x⟩:=p
 have hk:=hv.now.kind
 dsimp only at hk hv
 rcases hk with rfl | rfl | rfl | rfl
 ·exact pick_1 H b bn s i f c x n m F K va w hH hn hm hv hK hva
 ·exact pick_2 H b bn s i f c x n m F K va w hH hm hv hK hva
 ·exact pick_3 H b bn s i f c x n m F K va w hH hm hv hK hva
 ·exact pick_4 H b bn s i f c x n m F K va w hH hm hv hK hva
end Go.Proofs.YtbakjaliponbbaaGreatDoor
