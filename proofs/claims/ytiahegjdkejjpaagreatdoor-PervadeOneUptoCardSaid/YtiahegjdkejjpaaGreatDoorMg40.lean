/- The walks of bitvec's Count, Ones and Not, and of mono.bits at 8, at no truths that lie nowhere. The walk of mono.Apply, over contracts of bits, wholes and .. Conditions: as each theorem says. -/
import Derived.Test.YtiahegjdkejjpaaGreatDoorMg38
import Derived.Test.YtiahegjdkejjpaaGreatDoorMg28
import Derived.Test.YtiahegjdkejjpaaGreatDoorMg39
set_option maxRecDepth 100000
set_option maxHeartbeats 4000000
namespace Go.Proofs.YtiahegjdkejjpaaGreatDoor
open Go Go.RowKit Go.Proofs Fl
abbrev nilB:Value := .agg #[.slice none 0 0,.int .i64 0]
theorem count_nil (w:World):Calls Tryz.prog 140 #[nilB] w fun e w'=>e= .returned (.int .i64 ((0:Nat):Int))/\Below w.heap.size w w':=by
 have HB:=Lib.hid (bel1 w (.cells #[.slice none 0 0,.int .i64 0] 30))
 go_enter Tryz.func140,Tryz.ntmps140
 go_wp2_with fail
 refine wp_loop_rounds 1 ?_
 rw [rounds_succ]
 go_wp2
 go_ret
 exact ⟨rfl,HB.out⟩
theorem ones_nil (w:World):Calls Tryz.prog 191 #[nilB] w fun e w'=>∃ a m c,e= .returned (.slice a m c)/\Own1 w' w.heap.size 3 (.slice a m c) (([]:List Nat).map fun j => .int .i64 (j:Nat))/\Below w.heap.size w w':=by
 have HB0:=Lib.hid (bel1 w (.cells #[.slice none 0 0,.int .i64 0] 30))
 have HC:=Lib.hid (fun W=>count_nil W)
 have hmk:∀ w,(Instr.makeSlice 22 (.int .i64 0) (.int .i64 0)).run Tryz.prog w= .ok (.slice (some ⟨w.heap.size,0,none⟩) 0 0) (w.alloc (.cells (madeCells #[.int .i64 0] 0) 3)):=fun w=>make_capI 0 (by decide) w
 go_enter Tryz.func191,Tryz.ntmps191
 go_wp2_with fail
 refine (HC.out _).mono ?_
 rintro e w1 ⟨rfl,hb1⟩
 have HB1:=Lib.hid (bel_both HB0.out hb1)
 have hk1:=block_up hb1
 clear hb1
 have HO0:Hid (Own1 (w1.alloc (.cells (madeCells #[.int .i64 0] 0) 3)) w.heap.size 3 (.slice (some ⟨w1.heap.size,0,none⟩) 0 0) []) :=
  World.ownsRow_made (base:=w.heap.size) (e:=3) (size:=1) w1 (madeCells #[.int .i64 0] 0) 0 HB1.out.size (by unfold maxLen;omega) (by rw [size_madeCells])
 have HBM:=Lib.hid (bel_both HB1.out (bel1 w1 (.cells (madeCells #[.int .i64 0] 0) 3)))
 obtain ⟨hk0,hkx,_⟩:=pair_of hk1
 have hlt1:w.heap.size < w1.heap.size:=lt_of_block hk1
 clear hk1
 go_wp2_with fail
 refine wp_loop_rounds 1 ?_
 rw [rounds_succ]
 go_wp2
 go_ret
 exact ⟨_,_,_,rfl,HO0.out,HBM.out⟩
theorem not_nil (w:World):Calls Tryz.prog 190 #[nilB] w fun e w'=>∃ g,e= .returned (.agg #[.slice (some ⟨g,0,none⟩) 0 0,.int .i64 0])/\Below w.heap.size w w':=by
 have hmk0:=run_make_row' (P:=Tryz.prog) 28 232 (.int .u64 0) 8 Tryz.underlying28 info_u64 rfl .i64 .i64 0 (by omega) (by omega)
 have hmk:∀ w,(Instr.makeSlice 28 (.int .i64 0) (.int .i64 0)).run Tryz.prog w= .ok (.slice (some ⟨w.heap.size,0,none⟩) 0 0) (w.alloc (.cells (madeCells #[.int .u64 0] 0) 232)):=fun w=>hmk0 w
 clear hmk0
 go_enter Tryz.func190,Tryz.ntmps190
 go_wp2_with fail
 have hma:=notMid_a w (.cells #[.slice none 0 0,.int .i64 0] 30) 0 0 (by unfold maxLen;omega)
 have hmb:=notMid_b w (.cells #[.slice none 0 0,.int .i64 0] 30) 0 0 (by unfold maxLen;omega)
 have HMA:=Lib.hid hma
 have HMB:=Lib.hid hmb
 clear hma hmb
 go_cut [3] from 6 (fun p wx=>NotMid w (.cells #[.slice none 0 0,.int .i64 0] 30) 0 0 p wx)
 case first =>
  go_region
  all_goals
   go_wp2
   go_meet
   first | exact HMA.out | exact HMB.out
 obtain ⟨V,g,rfl,hr0,hb0,hk0,hk1,hk2,hVg,hV⟩:=hcut
 have HR0:=Lib.hid hr0
 have HB0:=Lib.hid hb0
 have HK0:=Lib.hid hk0
 have HK1:=Lib.hid hk1
 have HK2:=Lib.hid hk2
 have hg2:=hr0.low.1
 clear hr0 hb0 hk0 hk1 hk2 hmk
 obtain ⟨hx0,hx1,_⟩:=pair_of HK0.out
 go_wp2_with fail
 refine wp_loop_rounds 1 ?_
 rw [rounds_succ]
 have HT:=Lib.hid (trim_any (w.heap.size+2) g 0 0 _ wc (by decide) rfl HR0.out (fun j hj=>absurd hj (Nat.not_lt_zero _)))
 obtain ⟨hv0,hv1,hvf⟩:=pair_of HK2.out
 go_wp2_with fail
 refine HT.out.mono ?_
 rintro e w5 ⟨rfl,hr5,hb5,ho5⟩
 have HB5:=Lib.hid (HB0.out.trans (hb5.mono (by omega)))
 have HK5:=Lib.hid (show w5.heap[w.heap.size+1]?=some (.cells bcells 30) by rw [hb5.block _ (by omega)];exact HK1.out)
 have hVl:V < wc.heap.size:=lt_of_block HK2.out
 have HKV:=Lib.hid (show w5.heap[V]?=some (.cells #[.slice (some ⟨g,0,none⟩) 0 0,.int .i64 0] 30) by rw [ho5 V hVl hVg];exact HK2.out)
 clear hr5 hb5 ho5 hv0 hv1 hvf
 obtain ⟨hv0,hv1,hvf⟩:=pair_of HKV.out
 obtain ⟨hk0,hk1,hkf⟩:=pair_of HK5.out
 go_wp2
 refine bodyPost_ret (ret_bits rfl _ _ _ rfl (set2_block HK5.out _ _)) rfl ⟨g,rfl,below_set2 HB5.out (Nat.le_succ _) _ _⟩
theorem mbits_8n (H:Nat->Prop) (G:Nat->Nat) (w:World) :
  Calls Tryz.prog 121 #[.int .i64 8,nilB] w (VecOk H w (fun u W=>NumV u 1 0 G W)):=by
 have hv:=heap_alloc_new w (.cells #[.slice none 0 0,.int .i64 0] 30)
 have HB:=Lib.hid (bel2 w (.cells #[.slice none 0 0,.int .i64 0] 30) (.cells zcells 37))
 have HV:=Lib.hid ((Below.heap_alloc _ (.cells zcells 37) _ (lt_of_block hv)).trans hv)
 have HR:=Lib.hid (heap_alloc_new (w.alloc (.cells #[.slice none 0 0,.int .i64 0] 30)) (.cells zcells 37))
 have HN:=Lib.hid (fun W=>not_nil W)
 obtain ⟨hv0,hv1,hvf⟩:=pair_of HV.out
 have HZ:Hid ((w.alloc (.cells #[.slice none 0 0,.int .i64 0] 30)).heap.size=w.heap.size+1):=by show _=_;simp
 rw [HZ.out] at HR
 clear hv
 go_enter Tryz.func121,Tryz.ntmps121
 go_wp2_with fail
 refine (HN.out _).mono ?_
 rintro e w1 ⟨g,rfl,hb1⟩
 have HB1:=Lib.hid (bel_both HB.out hb1)
 have HK1:=Lib.hid (show w1.heap[w.heap.size+1]?=some (.cells zcells 37) by rw [hb1.block _ (lt_of_block HR.out)];exact HR.out)
 clear hb1 hv0 hv1 hvf
 go_wp2_with fail
 refine (vbits_any _ _ _ _ _).mono ?_
 rintro e w2 ⟨rfl,hb2⟩
 have HB2:=Lib.hid (bel_both HB1.out hb2)
 have HK2:=Lib.hid (show w2.heap[w.heap.size+1]?=some (.cells zcells 37) by rw [hb2.block _ (lt_of_block HK1.out)];exact HK1.out)
 clear hb2
 have HKE:Hid (Keeps H (set8 w2 (w.heap.size+1) (.int .i64 1) (.slice (some ⟨g,0,none⟩) 0 0) (.int .i64 0) vnil vnil vnil vnil vnil) (NumV (vecW 1 (some ⟨g,0,none⟩,0,0) 0 nilS nilS nilS nilS nilS) 1 0 G)):=fun W _ _=>by
  have h:NumV (vecW 1 (some ⟨g,0,none⟩,0,0) 0 nilS nilS nilS nilS nilS) 1 0 (fun j=>flagF ((fun _=>false) j)) W:=numV_bits (n:=0) (by decide) ⟨_,rfl,⟨g,0,_,rfl,fun j hj=>absurd hj (by simp)⟩⟩
  exact h.congr fun j hj=>absurd hj (Nat.not_lt_zero _)
 have HRE:=Lib.hid (set8_block HK2.out (.int .i64 1) (.slice (some ⟨g,0,none⟩) 0 0) (.int .i64 0) vnil vnil vnil vnil vnil)
 have HBE:=Lib.hid (below_set8 HB2.out (Nat.le_add_right _ 1) (.int .i64 1) (.slice (some ⟨g,0,none⟩) 0 0) (.int .i64 0) vnil vnil vnil vnil vnil)
 obtain ⟨⟨h0,h1,h2,h3,h4,h5,h6,h7⟩,hz⟩:=boxed_of HK2.out
 go_wp2
 refine bodyPost_ret (v := .tuple #[vecW 1 (some ⟨g,0,none⟩,0,0) 0 nilS nilS nilS nilS nilS,.int .i64 0]) ?_ rfl ⟨1,(some ⟨g,0,none⟩,0,0),0,nilS,nilS,nilS,nilS,nilS,rfl,HKE.out,HBE.out⟩
 exact ret_vec2 (fn:=Tryz.f121) (p:=4) (u:=5) rfl _ _ (w.heap.size+1) (by rfl) HRE.out
theorem St.more {w W W':World}{k:Int}{b:Value}{bn:Int}{s i f c x:Value} (h:St w W k b bn s i f c x) (hb:Below (w.heap.size+2) W W'):St w W' k b bn s i f c x:=by
 have hc:∀ j u,W.cell? ⟨w.heap.size,j,none⟩=some u->W'.cell? ⟨w.heap.size,j,none⟩=some u:=fun j u hu=>by rw [hb.cell (p:=⟨w.heap.size,j,none⟩) (by show w.heap.size < _;omega)];exact hu
 obtain ⟨h0,h1,h2,h3,h4,h5,h6,h7⟩:=h.box
 exact ⟨⟨hc _ _ h0,hc _ _ h1,hc _ _ h2,hc _ _ h3,hc _ _ h4,hc _ _ h5,hc _ _ h6,hc _ _ h7⟩,by rw [hb.block _ (by omega)];exact h.res,h.bel.trans (hb.mono (by omega))⟩
def TwoB (H:Nat->Prop) (B:Nat) (w:World) (T:Value->World->Prop) (E:Int) (e:Ending) (w':World):Prop :=
 (E=0/\∃ (k:Int) (b:Sl) (bn:Int) (s i f c x:Sl),e= .returned (.tuple #[vecW k b bn s i f c x,.int .i64 0])/\Keeps H w' (T (vecW k b bn s i f c x))/\Below B w w')\/(E≠0/\e= .returned (.tuple #[vecV 0 vnil 0 vnil vnil vnil vnil vnil,.int .i64 E])/\Below B w w')
theorem mapply_bits (H:Nat->Prop) (f:Int) (hf:1<=f/\f<=8) (b:Sl) (bn:Int) (s i ff c x:Sl) (T:Value->World->Prop) (E:Int) (w:World) (hH:∀ b,H b->b < w.heap.size)
  (hcl:∀ W,Below w.heap.size w W->Calls Tryz.prog 58 #[vecW 1 b bn s i ff c x] W fun e w2=>e= .returned (.int .i64 0)/\Below W.heap.size W w2)
  (hbits:∀ W,Below w.heap.size w W->∀ K:Nat->Prop,(∀ b,K b->H b\/w.heap.size<=b)->(∀ b,K b->b < W.heap.size)->Calls Tryz.prog 121 #[.int .i64 f,.agg #[.slice b.1 b.2.1 b.2.2,.int .i64 bn]] W (TwoL K W T E)) :
  Calls Tryz.prog 59 #[.int .i64 f,vecW 1 b bn s i ff c x] w (TwoL H w T E):=by
 have hf1:¬ f < 1:=by omega
 have hf8:¬ 8 < f:=by omega
 have hd1:=decide_eq_false hf1
 have hd8:=decide_eq_false hf8
 have HC:=Lib.hid hcl
 have HH:=Lib.hid hH
 have HS0:=Lib.hid (St.new w 1 (.slice b.1 b.2.1 b.2.2) bn (.slice s.1 s.2.1 s.2.2) (.slice i.1 i.2.1 i.2.2) (.slice ff.1 ff.2.1 ff.2.2) (.slice c.1 c.2.1 c.2.2) (.slice x.1 x.2.1 x.2.2))
 clear hcl hH hf
 have HP:=Lib.hid (fun W=>packed_yes b bn (.slice s.1 s.2.1 s.2.2) (.slice i.1 i.2.1 i.2.2) (.slice ff.1 ff.2.1 ff.2.2) (.slice c.1 c.2.1 c.2.2) (.slice x.1 x.2.1 x.2.2) W)
 have HBT:=Lib.hid hbits
 clear hbits
 have HKL:Hid (∀ W:World,w.heap.size+1 < W.heap.size->∀ b,(H b\/b=w.heap.size+1)->b < W.heap.size):=fun W hW b e=>by
  rcases e with e | e
  ·have:=HH.out b e;omega
  ·omega
 go_enter Tryz.func59,Tryz.ntmps59
 obtain ⟨h0,h1,h2,h3,h4,h5,h6,h7⟩:=HS0.out.box
 go_wp2_with fail
 refine (HC.out _ HS0.out.bel).mono ?_
 rintro e w1 ⟨rfl,hb1⟩
 have HS1:=Lib.hid (HS0.out.step hb1)
 clear hb1 h0 h1 h2 h3 h4 h5 h6 h7 HS0
 obtain ⟨h0,h1,h2,h3,h4,h5,h6,h7⟩:=HS1.out.box
 go_wp2_with fail
 refine (HP.out _).mono ?_
 rintro e w2 ⟨rfl,hb2⟩
 have HS2:=Lib.hid (HS1.out.step hb2)
 clear hb2 h0 h1 h2 h3 h4 h5 h6 h7 HS1
 have HS3:=Lib.hid (HS2.out.step (bel1 w2 (.cells #[.slice b.1 b.2.1 b.2.2,.int .i64 bn] 30)))
 have HV3:=Lib.hid (heap_alloc_new w2 (.cells #[.slice b.1 b.2.1 b.2.2,.int .i64 bn] 30))
 obtain ⟨hv0,hv1,hvf⟩:=pair_of HV3.out
 go_wp2_with fail
 refine (HBT.out _ HS3.out.bel (fun b=>H b\/b=w.heap.size+1) (fun b e=>by
  rcases e with e | e
  ·exact .inl e
  ·exact .inr (by omega)) (HKL.out _ HS3.out.sz)).mono ?_
 rintro e w4 (⟨hE,k5,b5,bn5,s5,i5,f5,c5,x5,rfl,hk5,hb5⟩ | ⟨hE,rfl,hb5⟩)
 ·have HS4:=Lib.hid (HS3.out.step hb5)
  have HK4:=Lib.hid hk5
  have HE:=Lib.hid hE
  clear hb5 hk5 hE hv0 hv1 hvf
  obtain ⟨⟨h0,h1,h2,h3,h4,h5,h6,h7⟩,hz⟩:=boxed_of HS4.out.res
  have HKE:=Lib.hid ((HK4.out.set8 (.inr rfl) (.int .i64 k5) (.slice b5.1 b5.2.1 b5.2.2) (.int .i64 bn5) (.slice s5.1 s5.2.1 s5.2.2) (.slice i5.1 i5.2.1 i5.2.2) (.slice f5.1 f5.2.1 f5.2.2) (.slice c5.1 c5.2.1 c5.2.2) (.slice x5.1 x5.2.1 x5.2.2)).sub (H':=H) fun _ _ e => .inl e)
  have HBE:=Lib.hid (below_set8 HS4.out.bel (Nat.le_add_right _ 1) (.int .i64 k5) (.slice b5.1 b5.2.1 b5.2.2) (.int .i64 bn5) (.slice s5.1 s5.2.1 s5.2.2) (.slice i5.1 i5.2.1 i5.2.2) (.slice f5.1 f5.2.1 f5.2.2) (.slice c5.1 c5.2.1 c5.2.2) (.slice x5.1 x5.2.1 x5.2.2))
  have HRE:=Lib.hid (set8_block HS4.out.res (.int .i64 k5) (.slice b5.1 b5.2.1 b5.2.2) (.int .i64 bn5) (.slice s5.1 s5.2.1 s5.2.2) (.slice i5.1 i5.2.1 i5.2.2) (.slice f5.1 f5.2.1 f5.2.2) (.slice c5.1 c5.2.1 c5.2.2) (.slice x5.1 x5.2.1 x5.2.2))
  go_wp2
  refine bodyPost_ret (v := .tuple #[vecW k5 b5 bn5 s5 i5 f5 c5 x5,.int .i64 0]) ?_ rfl (.inl ⟨HE.out,k5,b5,bn5,s5,i5,f5,c5,x5,rfl,HKE.out,HBE.out⟩)
  exact ret_vec2 (fn:=Tryz.f59) (p:=4) (u:=5) rfl _ _ (w.heap.size+1) (by rfl) HRE.out
 ·have HS4:=Lib.hid (HS3.out.step hb5)
  have HE:=Lib.hid hE
  clear hb5 hE hv0 hv1 hvf
  obtain ⟨⟨h0,h1,h2,h3,h4,h5,h6,h7⟩,hz⟩:=boxed_of HS4.out.res
  have HBE:=Lib.hid (below_set8 HS4.out.bel (Nat.le_add_right _ 1) (.int .i64 0) vnil (.int .i64 0) vnil vnil vnil vnil vnil)
  have HRE:=Lib.hid (set8_block HS4.out.res (.int .i64 0) vnil (.int .i64 0) vnil vnil vnil vnil vnil)
  go_wp2
  refine bodyPost_ret (v := .tuple #[vecV 0 vnil 0 vnil vnil vnil vnil vnil,.int .i64 E]) ?_ rfl (.inr ⟨HE.out,rfl,HBE.out⟩)
  exact ret_vec2 (fn:=Tryz.f59) (p:=4) (u:=5) rfl _ _ (w.heap.size+1) (by rfl) HRE.out
theorem mapply_wholes (H:Nat->Prop) (f:Int) (hf:1<=f/\f<=8) (h4:f≠4) (k:Int) (hk:k≠1) (b:Sl) (bn:Int) (s i ff c x:Sl) (T:Value->World->Prop) (E:Int) (R:Option Addr->Nat->Nat->World->Nat->Prop) (w:World) (hH:∀ b,H b->b < w.heap.size)
  (hcl:∀ W,Below w.heap.size w W->Calls Tryz.prog 58 #[vecW k b bn s i ff c x] W fun e w2=>e= .returned (.int .i64 0)/\Below W.heap.size W w2)
  (hwh:∀ W,Below w.heap.size w W->Calls Tryz.prog 122 #[vecW k b bn s i ff c x] W fun e w'=>∃ a m cc,e= .returned (.tuple #[.slice a m cc,.bool true])/\R a m cc w' W.heap.size/\Below W.heap.size W w')
  (hgo:∀ W0 W a m cc,Below w.heap.size w W0->Below W0.heap.size W0 W->R a m cc W W0.heap.size->∀ K:Nat->Prop,(∀ b,K b->b < W0.heap.size)->Calls Tryz.prog 123 #[.int .i64 f,.slice a m cc] W (TwoB K W0.heap.size W T E)) :
  Calls Tryz.prog 59 #[.int .i64 f,vecW k b bn s i ff c x] w (TwoL H w T E):=by
 have n4:(f != 4)=true:=by simpa using h4
 clear h4
 have hf1:¬ f < 1:=by omega
 have hf8:¬ 8 < f:=by omega
 have hd1:=decide_eq_false hf1
 have hd8:=decide_eq_false hf8
 have HC:=Lib.hid hcl
 have HH:=Lib.hid hH
 have HS0:=Lib.hid (St.new w k (.slice b.1 b.2.1 b.2.2) bn (.slice s.1 s.2.1 s.2.2) (.slice i.1 i.2.1 i.2.2) (.slice ff.1 ff.2.1 ff.2.2) (.slice c.1 c.2.1 c.2.2) (.slice x.1 x.2.1 x.2.2))
 clear hcl hH hf
 have HP:=Lib.hid (fun W=>packed_no k hk (.slice b.1 b.2.1 b.2.2) bn (.slice s.1 s.2.1 s.2.2) (.slice i.1 i.2.1 i.2.2) (.slice ff.1 ff.2.1 ff.2.2) (.slice c.1 c.2.1 c.2.2) (.slice x.1 x.2.1 x.2.2) W)
 have HW:=Lib.hid hwh
 have HG:=Lib.hid hgo
 clear hwh hgo hk
 have HKL:Hid (∀ W:World,w.heap.size+1 < W.heap.size->∀ b,(H b\/b=w.heap.size+1)->b < W.heap.size):=fun W hW b e=>by
  rcases e with e | e
  ·have:=HH.out b e;omega
  ·omega
 go_enter Tryz.func59,Tryz.ntmps59
 obtain ⟨h0,h1,h2,h3,h4,h5,h6,h7⟩:=HS0.out.box
 go_wp2_with fail
 refine (HC.out _ HS0.out.bel).mono ?_
 rintro e w1 ⟨rfl,hb1⟩
 have HS1:=Lib.hid (HS0.out.step hb1)
 clear hb1 h0 h1 h2 h3 h4 h5 h6 h7 HS0
 obtain ⟨h0,h1,h2,h3,h4,h5,h6,h7⟩:=HS1.out.box
 go_wp2_with fail
 refine (HP.out _).mono ?_
 rintro e w2 ⟨rfl,hb2⟩
 have HS2:=Lib.hid (HS1.out.step hb2)
 clear hb2 h0 h1 h2 h3 h4 h5 h6 h7 HS1
 have HS3:=Lib.hid (HS2.out.step (bel1 w2 (.cells #[vnil,.int .i64 0] 30)))
 obtain ⟨wa,hwa⟩:∃ wa,wa=w2.alloc (.cells #[vnil,.int .i64 0] 30):=⟨_,rfl⟩
 have HWA:=Lib.hid hwa
 rw [<- hwa] at HS3
 clear hwa
 obtain ⟨h0,h1,h2,h3,h4,h5,h6,h7⟩:=HS3.out.box
 rw [HWA.out] at h0 h1 h2 h3 h4 h5 h6 h7
 go_wp2_with fail
 rw [<- HWA.out]
 refine (HW.out _ HS3.out.bel).mono ?_
 rintro e w4 ⟨a,m,cc,rfl,hr,hb4⟩
 have HS4:=Lib.hid (HS3.out.step hb4)
 have HB4:=Lib.hid hb4
 have HR4:=Lib.hid hr
 clear hb4 hr h0 h1 h2 h3 h4 h5 h6 h7
 go_wp2_with fail
 refine (HG.out wa w4 a m cc HS3.out.bel HB4.out HR4.out (fun b=>H b\/b=w.heap.size+1) (HKL.out _ HS3.out.sz)).mono ?_
 rintro e w5 (⟨hE,k5,b5,bn5,s5,i5,f5,c5,x5,rfl,hk5,hb5⟩ | ⟨hE,rfl,hb5⟩)
 ·have HS5:=Lib.hid (HS4.out.more (hb5.mono HS3.out.sz))
  have HK5:=Lib.hid hk5
  have HE:=Lib.hid hE
  clear hb5 hk5 hE
  obtain ⟨⟨h0,h1,h2,h3,h4,h5,h6,h7⟩,hz⟩:=boxed_of HS5.out.res
  have HKE:=Lib.hid ((HK5.out.set8 (.inr rfl) (.int .i64 k5) (.slice b5.1 b5.2.1 b5.2.2) (.int .i64 bn5) (.slice s5.1 s5.2.1 s5.2.2) (.slice i5.1 i5.2.1 i5.2.2) (.slice f5.1 f5.2.1 f5.2.2) (.slice c5.1 c5.2.1 c5.2.2) (.slice x5.1 x5.2.1 x5.2.2)).sub (H':=H) fun _ _ e => .inl e)
  have HBE:=Lib.hid (below_set8 HS5.out.bel (Nat.le_add_right _ 1) (.int .i64 k5) (.slice b5.1 b5.2.1 b5.2.2) (.int .i64 bn5) (.slice s5.1 s5.2.1 s5.2.2) (.slice i5.1 i5.2.1 i5.2.2) (.slice f5.1 f5.2.1 f5.2.2) (.slice c5.1 c5.2.1 c5.2.2) (.slice x5.1 x5.2.1 x5.2.2))
  have HRE:=Lib.hid (set8_block HS5.out.res (.int .i64 k5) (.slice b5.1 b5.2.1 b5.2.2) (.int .i64 bn5) (.slice s5.1 s5.2.1 s5.2.2) (.slice i5.1 i5.2.1 i5.2.2) (.slice f5.1 f5.2.1 f5.2.2) (.slice c5.1 c5.2.1 c5.2.2) (.slice x5.1 x5.2.1 x5.2.2))
  go_wp2
  refine bodyPost_ret (v := .tuple #[vecW k5 b5 bn5 s5 i5 f5 c5 x5,.int .i64 0]) ?_ rfl (.inl ⟨HE.out,k5,b5,bn5,s5,i5,f5,c5,x5,rfl,HKE.out,HBE.out⟩)
  exact ret_vec2 (fn:=Tryz.f59) (p:=4) (u:=5) rfl _ _ (w.heap.size+1) (by rfl) HRE.out
 ·have HS5:=Lib.hid (HS4.out.more (hb5.mono HS3.out.sz))
  have HE:=Lib.hid hE
  clear hb5 hE
  obtain ⟨⟨h0,h1,h2,h3,h4,h5,h6,h7⟩,hz⟩:=boxed_of HS5.out.res
  have HBE:=Lib.hid (below_set8 HS5.out.bel (Nat.le_add_right _ 1) (.int .i64 0) vnil (.int .i64 0) vnil vnil vnil vnil vnil)
  have HRE:=Lib.hid (set8_block HS5.out.res (.int .i64 0) vnil (.int .i64 0) vnil vnil vnil vnil vnil)
  go_wp2
  refine bodyPost_ret (v := .tuple #[vecV 0 vnil 0 vnil vnil vnil vnil vnil,.int .i64 E]) ?_ rfl (.inr ⟨HE.out,rfl,HBE.out⟩)
  exact ret_vec2 (fn:=Tryz.f59) (p:=4) (u:=5) rfl _ _ (w.heap.size+1) (by rfl) HRE.out
def doneN (R:Nat->Nat×Int) (F:Nat->Nat) (i j:Nat):Value := .float .f64 (if j < i then (R j).1 else F j)
theorem doneN_zero (R:Nat->Nat×Int) (F:Nat->Nat):doneN R F 0=fun j => .float .f64 (F j):=by
 funext j;unfold doneN;rw [if_neg (Nat.not_lt_zero _)]
theorem doneN_succ (R:Nat->Nat×Int) (F:Nat->Nat) (i:Nat):(fun j=>if j=i then Value.float .f64 (R i).1 else doneN R F i j)=doneN R F (i+1):=by
 funext j
 unfold doneN
 by_cases h:j=i
 ·subst h;rw [if_pos rfl,if_pos (Nat.lt_succ_self _)]
 ·rw [if_neg h]
  by_cases h2:j < i
  ·rw [if_pos h2,if_pos (by omega)]
  ·rw [if_neg h2,if_neg (by omega)]
theorem doneN_at (R:Nat->Nat×Int) (F:Nat->Nat) (i:Nat):doneN R F i i= .float .f64 (F i):=by unfold doneN;rw [if_neg (Nat.lt_irrefl _)]
theorem doneN_full (R:Nat->Nat×Int) (F:Nat->Nat) (n:Nat):(List.range n).map (doneN R F n)=(List.range n).map fun j => .float .f64 (R j).1 :=
 List.map_congr_left fun j hj=>by unfold doneN;rw [if_pos (List.mem_range.1 hj)]
theorem mapply_floats (H:Nat->Prop) (f:Int) (hf:1<=f/\f<=8) (t:Bool) (h4:t=true->f=4) (k:Int) (hk:k≠1) (b:Sl) (bn:Int) (s i ff c x:Sl) (n:Nat) (F:Nat->Nat) (R:Nat->Nat×Int) (E:Int) (w:World) (hH:∀ b,H b->b < w.heap.size) (hn:n<=1000000)
  (hcl:∀ W,Below w.heap.size w W->Calls Tryz.prog 58 #[vecW k b bn s i ff c x] W fun e w2=>e= .returned (.int .i64 0)/\Below W.heap.size W w2)
  (hwh:∀ W,Below w.heap.size w W->Calls Tryz.prog 122 #[vecW k b bn s i ff c x] W fun e w'=>∃ a m cc,e= .returned (.tuple #[.slice a m cc,.bool t])/\Below W.heap.size W w')
  (hnm:∀ W,Below w.heap.size w W->Calls Tryz.prog 124 #[vecW k b bn s i ff c x] W fun e w'=>∃ v,e= .returned v/\Own1 w' W.heap.size 55 v ((List.range n).map fun j => .float .f64 (F j))/\Below W.heap.size W w')
  (hone:∀ j,j < n->∀ W,Calls Tryz.prog 125 #[.int .i64 f,.float .f64 (F j)] W fun e w'=>e= .returned (.tuple #[.float .f64 (R j).1,.int .i64 (R j).2])/\W=w')
  (hR:∀ j,j < n->∃ y E,R j=(y,E)/\((TF y/\E=0)\/(y=0/\E=24)))
  (hE0:(∀ j,j < n->(R j).2=0)->E=0) (hE1:∀ j,j < n->(R j).2≠0->E=24) :
  Calls Tryz.prog 59 #[.int .i64 f,vecW k b bn s i ff c x] w (TwoL H w (fun u W=>NumV u (leastF (fun j=>(R j).1) n:Nat) n (fun j=>(R j).1) W) E):=by
 have n4:t=false\/(t=true/\f=4):=by
  cases t with
  | false=>exact .inl rfl
  | true=>exact .inr ⟨rfl,h4 rfl⟩
 clear h4
 have hf1:¬ f < 1:=by omega
 have hf8:¬ 8 < f:=by omega
 have hd1:=decide_eq_false hf1
 have hd8:=decide_eq_false hf8
 have HC:=Lib.hid hcl
 have HH:=Lib.hid hH
 have HS0:=Lib.hid (St.new w k (.slice b.1 b.2.1 b.2.2) bn (.slice s.1 s.2.1 s.2.2) (.slice i.1 i.2.1 i.2.2) (.slice ff.1 ff.2.1 ff.2.2) (.slice c.1 c.2.1 c.2.2) (.slice x.1 x.2.1 x.2.2))
 clear hcl hH hf
 have HP:=Lib.hid (fun W=>packed_no k hk (.slice b.1 b.2.1 b.2.2) bn (.slice s.1 s.2.1 s.2.2) (.slice i.1 i.2.1 i.2.2) (.slice ff.1 ff.2.1 ff.2.2) (.slice c.1 c.2.1 c.2.2) (.slice x.1 x.2.1 x.2.2) W)
 have HW:=Lib.hid hwh
 have HNM:=Lib.hid hnm
 have HONE:=Lib.hid hone
 have HR:=Lib.hid hR
 have HE0:=Lib.hid hE0
 have HE1:=Lib.hid hE1
 clear hwh hnm hone hR hk hE0 hE1
 have HKL:Hid (∀ W:World,w.heap.size+1 < W.heap.size->∀ b,(H b\/b=w.heap.size+1)->b < W.heap.size):=fun W hW b e=>by
  rcases e with e | e
  ·have:=HH.out b e;omega
  ·omega
 rcases n4 with rfl | ⟨rfl,rfl⟩
 all_goals
  go_enter Tryz.func59,Tryz.ntmps59
  obtain ⟨h0,h1,h2,h3,h4,h5,h6,h7⟩:=HS0.out.box
  go_wp2_with fail
  refine (HC.out _ HS0.out.bel).mono ?_
  rintro e w1 ⟨rfl,hb1⟩
  have HS1:=Lib.hid (HS0.out.step hb1)
  clear hb1 h0 h1 h2 h3 h4 h5 h6 h7 HS0
  obtain ⟨h0,h1,h2,h3,h4,h5,h6,h7⟩:=HS1.out.box
  go_wp2_with fail
  refine (HP.out _).mono ?_
  rintro e w2 ⟨rfl,hb2⟩
  have HS2:=Lib.hid (HS1.out.step hb2)
  clear hb2 h0 h1 h2 h3 h4 h5 h6 h7 HS1
  have HS3:=Lib.hid (HS2.out.step (bel1 w2 (.cells #[vnil,.int .i64 0] 30)))
  obtain ⟨wa,hwa⟩:∃ wa,wa=w2.alloc (.cells #[vnil,.int .i64 0] 30):=⟨_,rfl⟩
  have HWA:=Lib.hid hwa
  rw [<- hwa] at HS3
  clear hwa
  obtain ⟨h0,h1,h2,h3,h4,h5,h6,h7⟩:=HS3.out.box
  rw [HWA.out] at h0 h1 h2 h3 h4 h5 h6 h7
  go_wp2_with fail
  rw [<- HWA.out]
  refine (HW.out _ HS3.out.bel).mono ?_
  rintro e w4 ⟨a0,m0,cc0,rfl,hb4⟩
  have HS4:=Lib.hid (HS3.out.step hb4)
  clear hb4 h0 h1 h2 h3 h4 h5 h6 h7
  obtain ⟨h0,h1,h2,h3,h4,h5,h6,h7⟩:=HS4.out.box
  go_wp2_with fail
  refine (HNM.out _ HS4.out.bel).mono ?_
  rintro e w5 ⟨v,rfl,ho,hb5⟩
  obtain ⟨a,cc,hv⟩:=ho.reads.len
  rw [List.length_map,List.length_range] at hv
  subst hv
  have HS5:=Lib.hid (HS4.out.step hb5)
  have hsz:w.heap.size+2<=w4.heap.size:=HS4.out.sz
  have HO0:Hid (Own1 w5 w4.heap.size 55 (.slice a n cc) ((List.range n).map (doneN R F 0))):=by
   unfold Hid;rw [doneN_zero];exact ho
  clear ho hb5 h0 h1 h2 h3 h4 h5 h6 h7
  go_wp2_with fail
  go_loopw [56] (fun ii wr=>∃ j:Nat,j<=n/\ii= .int .i64 j/\Own1 wr w4.heap.size 55 (.slice a n cc) ((List.range n).map (doneN R F j))/\St w wr k (.slice b.1 b.2.1 b.2.2) bn (.slice s.1 s.2.1 s.2.2) (.slice i.1 i.2.1 i.2.2) (.slice ff.1 ff.2.1 ff.2.2) (.slice c.1 c.2.1 c.2.2) (.slice x.1 x.2.1 x.2.2)/\∀ q,q < j->(R q).2=0) (fun ii _=>n - (intOf ii).toNat)
  case atStart=>exact ⟨0,Nat.zero_le _,rfl,HO0.out,HS5.out,fun j hj=>absurd hj (Nat.not_lt_zero _)⟩
  case round =>
   obtain ⟨j,hj,rfl,hrow,hst,hall⟩:=hrel
   have HROW:=Lib.hid hrow
   have HST:=Lib.hid hst
   have HALL:=Lib.hid hall
   clear hrow hst hall HO0
   by_cases hlt:j < n
   ·obtain ⟨g,rfl,hg1,hg2⟩:=HROW.out.some_ (by omega)
    have hcell:=own_cell HROW.out j hlt
    rw [doneN_at] at hcell
    obtain ⟨y,E',hrc,hcase⟩:=HR.out j hlt
    have HON:=Lib.hid (HONE.out j hlt)
    rw [hrc] at HON
    have HRC:=Lib.hid hrc
    have hfz:=HROW.out.frz j
    clear hrc
    generalize F j=fx at hcell HON
    have hst:=fun md=>store_float hcell hfz .f64 y md
    go_wp2_with fail
    refine (HON.out _).mono ?_
    rintro e w7 ⟨rfl,rfl⟩
    rcases hcase with ⟨-,rfl⟩ | ⟨rfl,rfl⟩
    ·have hput:=HROW.out.put hlt (.float .f64 (R j).1)
     rw [doneN_succ,HRC.out] at hput
     have HPUT:=Lib.hid hput
     have HSP:=Lib.hid (HST.out.put (g:=g) (j:=j) (by omega) (.float .f64 y))
     have HAL:Hid (∀ q,q < j+1->(R q).2=0):=fun q hq=>by
      by_cases e:q=j
      ·rw [e,HRC.out]
      ·exact HALL.out q (by omega)
     clear hput
     go_wp2
     go_roundw
     case rel=>exact ⟨j+1,by omega,by go_num,HPUT.out,HSP.out,HAL.out⟩
     case measure=>simp [intOf];omega
    ·have hE:E=24:=HE1.out j hlt (by rw [HRC.out];decide)
     subst hE
     have HE:Hid ((24:Int)≠0):=by unfold Hid;decide
     obtain ⟨⟨h0,h1,h2,h3,h4,h5,h6,h7⟩,hz⟩:=boxed_of HST.out.res
     have HBE:=Lib.hid (below_set8 HST.out.bel (Nat.le_add_right _ 1) (.int .i64 0) vnil (.int .i64 0) vnil vnil vnil vnil vnil)
     have HRE:=Lib.hid (set8_block HST.out.res (.int .i64 0) vnil (.int .i64 0) vnil vnil vnil vnil vnil)
     go_wp2
     refine bodyPost_ret (v := .tuple #[vecV 0 vnil 0 vnil vnil vnil vnil vnil,.int .i64 24]) ?_ rfl (.inr ⟨HE.out,rfl,HBE.out⟩)
     exact ret_vec2 (fn:=Tryz.f59) (p:=4) (u:=5) rfl _ _ (w.heap.size+1) (by rfl) HRE.out
   ·obtain rfl:j=n:=by omega
    have hrd:=HROW.out.reads
    rw [doneN_full] at hrd
    have HKP:=Lib.hid (kept_any (fun b=>H b\/b=w.heap.size+1) _ j (fun q=>(R q).1) wr (HKL.out _ HST.out.sz) hrd hn (fun q hq=>by
     obtain ⟨y,E',hrc,hcase⟩:=HR.out q hq
     have h0:=HALL.out q hq
     rw [hrc] at h0 ⊢
     rcases hcase with ⟨h,_⟩ | ⟨_,h⟩
     ·exact h
     ·rw [h] at h0;cases h0))
    have HE:Hid (E=0):=HE0.out HALL.out
    clear hrd HROW HONE HR HE1 HE0
    go_wp2_with fail
    refine HKP.out.mono ?_
    rintro e w6 ⟨k5,b5,bn5,s5,i5,f5,c5,x5,rfl,hk5,hb6⟩
    have HS6:=Lib.hid (HST.out.step hb6)
    have HK6:=Lib.hid hk5
    clear hb6 hk5
    obtain ⟨⟨h0,h1,h2,h3,h4,h5,h6,h7⟩,hz⟩:=boxed_of HS6.out.res
    have HKE:=Lib.hid ((HK6.out.set8 (.inr rfl) (.int .i64 k5) (.slice b5.1 b5.2.1 b5.2.2) (.int .i64 bn5) (.slice s5.1 s5.2.1 s5.2.2) (.slice i5.1 i5.2.1 i5.2.2) (.slice f5.1 f5.2.1 f5.2.2) (.slice c5.1 c5.2.1 c5.2.2) (.slice x5.1 x5.2.1 x5.2.2)).sub (H':=H) fun _ _ e => .inl e)
    have HBE:=Lib.hid (below_set8 HS6.out.bel (Nat.le_add_right _ 1) (.int .i64 k5) (.slice b5.1 b5.2.1 b5.2.2) (.int .i64 bn5) (.slice s5.1 s5.2.1 s5.2.2) (.slice i5.1 i5.2.1 i5.2.2) (.slice f5.1 f5.2.1 f5.2.2) (.slice c5.1 c5.2.1 c5.2.2) (.slice x5.1 x5.2.1 x5.2.2))
    have HRE:=Lib.hid (set8_block HS6.out.res (.int .i64 k5) (.slice b5.1 b5.2.1 b5.2.2) (.int .i64 bn5) (.slice s5.1 s5.2.1 s5.2.2) (.slice i5.1 i5.2.1 i5.2.2) (.slice f5.1 f5.2.1 f5.2.2) (.slice c5.1 c5.2.1 c5.2.2) (.slice x5.1 x5.2.1 x5.2.2))
    go_wp2
    refine bodyPost_ret (v := .tuple #[vecW k5 b5 bn5 s5 i5 f5 c5 x5,.int .i64 0]) ?_ rfl (.inl ⟨HE.out,k5,b5,bn5,s5,i5,f5,c5,x5,rfl,HKE.out,HBE.out⟩)
    exact ret_vec2 (fn:=Tryz.f59) (p:=4) (u:=5) rfl _ _ (w.heap.size+1) (by rfl) HRE.out
theorem mapply_chr (H:Nat->Prop) (f:Int) (hf:1<=f/\f<=8) (k:Int) (b:Sl) (bn:Int) (s i ff c x:Sl) (w:World) (hH:∀ b,H b->b < w.heap.size)
  (hcl:∀ W,Below w.heap.size w W->Calls Tryz.prog 58 #[vecW k b bn s i ff c x] W fun e w2=>e= .returned (.int .i64 1)/\Below W.heap.size W w2) :
  Calls Tryz.prog 59 #[.int .i64 f,vecW k b bn s i ff c x] w (FltOut H w (24,[])):=by
 have hf1:¬ f < 1:=by omega
 have hf8:¬ 8 < f:=by omega
 have hd1:=decide_eq_false hf1
 have hd8:=decide_eq_false hf8
 have HC:=Lib.hid hcl
 have HH:=Lib.hid hH
 have HS0:=Lib.hid (St.new w k (.slice b.1 b.2.1 b.2.2) bn (.slice s.1 s.2.1 s.2.2) (.slice i.1 i.2.1 i.2.2) (.slice ff.1 ff.2.1 ff.2.2) (.slice c.1 c.2.1 c.2.2) (.slice x.1 x.2.1 x.2.2))
 clear hcl hH hf HH
 go_enter Tryz.func59,Tryz.ntmps59
 obtain ⟨h0,h1,h2,h3,h4,h5,h6,h7⟩:=HS0.out.box
 go_wp2_with fail
 refine (HC.out _ HS0.out.bel).mono ?_
 rintro e w1 ⟨rfl,hb1⟩
 have HS1:=Lib.hid (HS0.out.step hb1)
 clear hb1 h0 h1 h2 h3 h4 h5 h6 h7 HS0
 obtain ⟨⟨h0,h1,h2,h3,h4,h5,h6,h7⟩,hz⟩:=boxed_of HS1.out.res
 have HBE:=Lib.hid (below_set8 HS1.out.bel (Nat.le_add_right _ 1) (.int .i64 0) vnil (.int .i64 0) vnil vnil vnil vnil vnil)
 have HRE:=Lib.hid (set8_block HS1.out.res (.int .i64 0) vnil (.int .i64 0) vnil vnil vnil vnil vnil)
 go_wp2
 refine bodyPost_ret (v := .tuple #[vecV 0 vnil 0 vnil vnil vnil vnil vnil,.int .i64 24]) ?_ rfl (.inr ⟨by decide,rfl,HBE.out⟩)
 exact ret_vec2 (fn:=Tryz.f59) (p:=4) (u:=5) rfl _ _ (w.heap.size+1) (by rfl) HRE.out
end Go.Proofs.YtiahegjdkejjpaaGreatDoor
