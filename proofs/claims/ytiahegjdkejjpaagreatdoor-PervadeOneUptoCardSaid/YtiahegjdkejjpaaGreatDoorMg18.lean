/- The walk of .. Conditions: as each theorem says. -/
import Derived.Test.YtiahegjdkejjpaaGreatDoorMg15
import Derived.Test.YtiahegjdkejjpaaGreatDoorMg17
set_option maxRecDepth 100000
set_option maxHeartbeats 4000000
namespace Go.Proofs.YtiahegjdkejjpaaGreatDoor
open Go Go.RowKit Go.Proofs Fl
theorem rchars_alike13 (H:Nat->Prop) (p q:V8) (m n N:Nat) (F G:Nat->Int) (w:World) (hH:∀ b,H b->b < w.heap.size) (hL:lenP m n=some N) (hm:m<=1000000) (hn:n<=1000000)
  (hP:ClsV w p 1 m) (hQ:ClsV w q 1 n)
  (hCP:∀ W,Below w.heap.size w W->∀ j,j < m->Calls Tryz.prog 135 #[p.v,.int .i64 (j:Nat)] W fun e w'=>e= .returned (.int .i32 (F j))/\Below W.heap.size W w') (hCQ:∀ W,Below w.heap.size w W->∀ j,j < n->Calls Tryz.prog 135 #[q.v,.int .i64 (j:Nat)] W fun e w'=>e= .returned (.int .i32 (G j))/\Below W.heap.size W w') :
  Calls Tryz.prog 233 #[.int .i64 13,.int .i64 (N:Int),p.v,q.v] w (VecOk H w (fun u W=>NumV u 1 N (fun c=>flagF (decide (F (ixP m c)=G (ixP n c)))) W)):=by
 have hNb:N<=1000000:=lenP_le hL hm hn
 have HP:=Lib.hid hP
 have HQ:=Lib.hid hQ
 have HKP:=Lib.hid hCP
 have HKQ:=Lib.hid hCQ
 clear hCP hCQ
 have HH:=Lib.hid hH
 have HIX:=Lib.hid (fun c (hc:c < N)=>ixP_lt hL hc)
 obtain ⟨R,hR⟩:∃ R:Nat->Bool,R=fun c=>decide (F (ixP m c)=G (ixP n c)):=⟨_,rfl⟩
 have HRR:Hid (∀ c,R c=(decide (F (ixP m c)=G (ixP n c)))):=fun c=>by rw [hR]
 rw [show (fun c=>flagF (decide (F (ixP m c)=G (ixP n c))))=fun c=>flagF (R c) by rw [hR]]
 clear hR
 have hmk:=run_make_row' (P:=Tryz.prog) 242 4 (.bool false) 1 Tryz.underlying242 info_bool rfl .i64 .i64 N (by omega) (by omega)
 obtain ⟨ff,hff⟩:∃ ff:Nat->Value,ff=fun c => .bool (R c):=⟨_,rfl⟩
 have HFF:Hid (∀ c,ff c= .bool (R c)):=fun c=>by rw [hff]
 clear hff
 have HA0:=Lib.hid (Ar2.new w p q 4 ff (.bool false) N (by unfold maxLen;omega))
 clear hP hQ hH hL
 go_enter Tryz.func233,Tryz.ntmps233
 go_wp2
 go_loopw [22] (fun j wr=>∃ c:Nat,c<=N/\j= .int .i64 c/\Ar2 w p q 4 ff (.bool false) N c wr) (fun j _=>N - (intOf j).toNat)
 case atStart=>exact ⟨0,Nat.zero_le _,rfl,HA0.out⟩
 case round =>
  clear HA0
  obtain ⟨c,hc,rfl,har⟩:=hrel
  have HAR:=Lib.hid har
  clear har
  by_cases hlt:c < N
  ·obtain ⟨hi1,hi2⟩:=HIX.out c hlt
   have HCP:=Lib.hid (fun W (hs:Ar2 w p q 4 ff (.bool false) N c W)=>HP.out.cls W hs.st.bel)
   have HCQ:=Lib.hid (fun W (hs:Ar2 w p q 4 ff (.bool false) N c W)=>HQ.out.cls W hs.st.bel)
   have HFC:Hid (ff c= .bool (decide (F (ixP m c)=G (ixP n c)))):=by unfold Hid;rw [HFF.out,HRR.out]
   have HAP:=Lib.hid (fun W (hs:Ar2 w p q 4 ff (.bool false) N c W)=>rat_any p m c W (fun W' hb=>HP.out.len W' (bel_both hs.st.bel hb)))
   have HAQ:=Lib.hid (fun W (hs:Ar2 w p q 4 ff (.bool false) N c W)=>rat_any q n c W (fun W' hb=>HQ.out.len W' (bel_both hs.st.bel hb)))
   have HNP:=Lib.hid (fun W (hs:Ar2 w p q 4 ff (.bool false) N c W)=>HKP.out W hs.st.bel (ixP m c) hi1)
   have HNQ:=Lib.hid (fun W (hs:Ar2 w p q 4 ff (.bool false) N c W)=>HKQ.out W hs.st.bel (ixP n c) hi2)
   clear hi1 hi2
   generalize F (ixP m c)=xa at *
   generalize G (ixP n c)=xb at *
   generalize ixP m c=ia at *
   generalize ixP n c=ib at *
   go_upto_block 1 with fail
   go_cut [11,12] from 24 to 43 (fun x y wx=>x= .int .i64 (c:Int)/\y= .bool (decide (xa=xb))/\Ar2 w p q 4 ff (.bool false) N c wx)
   case first =>
    go_wp2_with fail
    have hs0:=HAR.out.dr
    have hs00:=HAR.out
    have hss0:=hs0.st
    have hss00:=hs00.st
    have hrc:=HAR.out.fill.cell hlt
    have hrf:=HAR.out.fill.frozen c
    have hrz:w.heap.size+3 < wr.heap.size:=HAR.out.fill.low.2
    go_region_held3 (fun W=>((W.cell? ⟨w.heap.size,0,none⟩=some (.int .i64 p.k)/\W.cell? ⟨w.heap.size,1,none⟩=some (.slice p.b.1 p.b.2.1 p.b.2.2)/\W.cell? ⟨w.heap.size,2,none⟩=some (.int .i64 p.bn)/\W.cell? ⟨w.heap.size,3,none⟩=some (.slice p.s.1 p.s.2.1 p.s.2.2)/\W.cell? ⟨w.heap.size,4,none⟩=some (.slice p.i.1 p.i.2.1 p.i.2.2)/\W.cell? ⟨w.heap.size,5,none⟩=some (.slice p.f.1 p.f.2.1 p.f.2.2)/\W.cell? ⟨w.heap.size,6,none⟩=some (.slice p.c.1 p.c.2.1 p.c.2.2)/\W.cell? ⟨w.heap.size,7,none⟩=some (.slice p.x.1 p.x.2.1 p.x.2.2))/\(W.cell? ⟨w.heap.size+1,0,none⟩=some (.int .i64 q.k)/\W.cell? ⟨w.heap.size+1,1,none⟩=some (.slice q.b.1 q.b.2.1 q.b.2.2)/\W.cell? ⟨w.heap.size+1,2,none⟩=some (.int .i64 q.bn)/\W.cell? ⟨w.heap.size+1,3,none⟩=some (.slice q.s.1 q.s.2.1 q.s.2.2)/\W.cell? ⟨w.heap.size+1,4,none⟩=some (.slice q.i.1 q.i.2.1 q.i.2.2)/\W.cell? ⟨w.heap.size+1,5,none⟩=some (.slice q.f.1 q.f.2.1 q.f.2.2)/\W.cell? ⟨w.heap.size+1,6,none⟩=some (.slice q.c.1 q.c.2.1 q.c.2.2)/\W.cell? ⟨w.heap.size+1,7,none⟩=some (.slice q.x.1 q.x.2.1 q.x.2.2)))/\St2 w W p q)
     (first | (with_reducible assumption) | (with_reducible (refine st2_s ?_);repeat (first | (with_reducible assumption) | (with_reducible refine St2.dr ?_) | (with_reducible refine St2.put ?_ (by first | assumption | omega | (simp;omega)) _))))
     (first
      | (go_at_call 58;(with_reducible refine (HCP.out _ ?_).mono ?_);exact Ar2.self (by repeat (first | (with_reducible assumption) | (with_reducible refine Ar2.dr ?_)));rintro e w1 ⟨rfl,hb1⟩;obtain ⟨hc1,hf1⟩:=bcell2 hb1;have hz1:=hb1.size;have hst1:Ar2 w p q 4 ff (.bool false) N c w1:=Ar2.step (by repeat (first | (with_reducible assumption) | (with_reducible refine Ar2.dr ?_))) hb1;have hss1:St2 w w1 p q:=hst1.st;have hcr1:=hst1.fill.cell hlt;have hfr1:=hst1.fill.frozen c;clear hb1)
      | (go_at_call 58;(with_reducible refine (HCQ.out _ ?_).mono ?_);exact Ar2.self (by repeat (first | (with_reducible assumption) | (with_reducible refine Ar2.dr ?_)));rintro e w2 ⟨rfl,hb2⟩;obtain ⟨hc2,hf2⟩:=bcell2 hb2;have hz2:=hb2.size;have hst2:Ar2 w p q 4 ff (.bool false) N c w2:=Ar2.step (by repeat (first | (with_reducible assumption) | (with_reducible refine Ar2.dr ?_))) hb2;have hss2:St2 w w2 p q:=hst2.st;have hcr2:=hst2.fill.cell hlt;have hfr2:=hst2.fill.frozen c;clear hb2)
      | (go_at_call 271;(with_reducible refine (HAP.out _ ?_).mono ?_);exact Ar2.self (by repeat (first | (with_reducible assumption) | (with_reducible refine Ar2.dr ?_)));rintro e w3 ⟨rfl,hb3⟩;obtain ⟨hc3,hf3⟩:=bcell2 hb3;have hz3:=hb3.size;have hst3:Ar2 w p q 4 ff (.bool false) N c w3:=Ar2.step (by repeat (first | (with_reducible assumption) | (with_reducible refine Ar2.dr ?_))) hb3;have hss3:St2 w w3 p q:=hst3.st;have hcr3:=hst3.fill.cell hlt;have hfr3:=hst3.fill.frozen c;clear hb3)
      | (go_at_call 271;(with_reducible refine (HAQ.out _ ?_).mono ?_);exact Ar2.self (by repeat (first | (with_reducible assumption) | (with_reducible refine Ar2.dr ?_)));rintro e w4 ⟨rfl,hb4⟩;obtain ⟨hc4,hf4⟩:=bcell2 hb4;have hz4:=hb4.size;have hst4:Ar2 w p q 4 ff (.bool false) N c w4:=Ar2.step (by repeat (first | (with_reducible assumption) | (with_reducible refine Ar2.dr ?_))) hb4;have hss4:St2 w w4 p q:=hst4.st;have hcr4:=hst4.fill.cell hlt;have hfr4:=hst4.fill.frozen c;clear hb4)
      | (go_at_call 135;(with_reducible refine (HNP.out _ ?_).mono ?_);exact Ar2.self (by repeat (first | (with_reducible assumption) | (with_reducible refine Ar2.dr ?_)));rintro e w5 ⟨rfl,hb5⟩;obtain ⟨hc5,hf5⟩:=bcell2 hb5;have hz5:=hb5.size;have hst5:Ar2 w p q 4 ff (.bool false) N c w5:=Ar2.step (by repeat (first | (with_reducible assumption) | (with_reducible refine Ar2.dr ?_))) hb5;have hss5:St2 w w5 p q:=hst5.st;have hcr5:=hst5.fill.cell hlt;have hfr5:=hst5.fill.frozen c;clear hb5)
      | (go_at_call 135;(with_reducible refine (HNQ.out _ ?_).mono ?_);exact Ar2.self (by repeat (first | (with_reducible assumption) | (with_reducible refine Ar2.dr ?_)));rintro e w6 ⟨rfl,hb6⟩;obtain ⟨hc6,hf6⟩:=bcell2 hb6;have hz6:=hb6.size;have hst6:Ar2 w p q 4 ff (.bool false) N c w6:=Ar2.step (by repeat (first | (with_reducible assumption) | (with_reducible refine Ar2.dr ?_))) hb6;have hss6:St2 w w6 p q:=hst6.st;have hcr6:=hst6.fill.cell hlt;have hfr6:=hst6.fill.frozen c;clear hb6))
    all_goals
     go_wp2
     go_meet
     (with_reducible exact ⟨rfl,rfl,hst6⟩)
   case rest =>
    obtain ⟨rfl,rfl,har⟩:=hcut
    have HAR2:=Lib.hid har
    clear har HAR
    have hrc:=HAR2.out.fill.cell hlt
    have hrf:=HAR2.out.fill.frozen c
    have hrz:w.heap.size+3 < wc.heap.size:=HAR2.out.fill.low.2
    go_wp2
    go_roundw
    case rel=>exact ⟨c+1,by omega,by go_num,rl_put HAR2.out hlt (by rw [HFC.out];try simp)⟩
    case measure=>simp [intOf];omega
  ·obtain rfl:c=N:=by omega
   have HPK:=Lib.hid (pack_any (w.heap.size+3) 0 c c R (by omega) (Nat.le_refl _) wr (fun i hi=>by
    rw [Nat.zero_add,HAR.out.fill.done i hi (Nat.le_refl _),HFF.out]))
   go_wp2_with fail
   refine HPK.out.mono ?_
   rintro e w5 ⟨gg,rfl,hr5,hb5⟩
   have HS5:=Lib.hid (HAR.out.st.step hb5)
   have HGW:Hid (wr.heap.size<=gg):=hr5.low.1
   have HGS:Hid (w.heap.size+3<=wr.heap.size):=HAR.out.st.sz
   have HR5:=Lib.hid hr5
   clear hb5 hr5
   go_wp2_with fail
   refine (vbits_any _ _ _ _ _).mono ?_
   rintro e w6 ⟨rfl,hb6⟩
   have HS6:=Lib.hid (HS5.out.step hb6)
   have HR6:=Lib.hid (HR5.out.below hb6)
   clear hb6
   have HRE:=Lib.hid (set8_block HS6.out.res (.int .i64 1) (.slice (some ⟨gg,0,none⟩) ((c+63) / 64) ((c+63) / 64)) (.int .i64 (c:Int)) vnil vnil vnil vnil vnil)
   have HBE:=Lib.hid (below_set8 HS6.out.bel (Nat.le_add_right _ 2) (.int .i64 1) (.slice (some ⟨gg,0,none⟩) ((c+63) / 64) ((c+63) / 64)) (.int .i64 (c:Int)) vnil vnil vnil vnil vnil)
   have HKE:Hid (Keeps H (set8 w6 (w.heap.size+2) (.int .i64 1) (.slice (some ⟨gg,0,none⟩) ((c+63) / 64) ((c+63) / 64)) (.int .i64 (c:Int)) vnil vnil vnil vnil vnil) (NumV (vecW 1 (some ⟨gg,0,none⟩,(c+63) / 64,(c+63) / 64) (c:Int) (none,0,0) (none,0,0) (none,0,0) (none,0,0) (none,0,0)) 1 c (fun c=>flagF (R c)))):=by
    have h1:Keeps (fun j=>H j\/j=w.heap.size+2) w6 (fun W=>Reads1 W (.slice (some ⟨gg,0,none⟩) ((c+63) / 64) ((c+63) / 64)) ((List.range ((c+63) / 64)).map fun j => .int .u64 (packW R c j:Nat))) :=
     Own1.keepsH HR6.out (fun j e=>by
      have h1:=HGW.out
      have h2:=HGS.out
      rcases e with e | e
      ·have:=HH.out j e;omega
      ·omega)
    refine ((h1.imp fun W' h=>numV_bits (by omega) ⟨_,rfl,⟨gg,0,_,rfl,fun j hj=>?_⟩⟩).set8 (.inr rfl) _ _ _ _ _ _ _ _).sub fun _ _ e => .inl e
    exact reads_cell h j hj
   clear HR5 HR6
   obtain ⟨⟨h0,h1,h2,h3,h4,h5,h6,h7⟩,hz⟩:=boxed_of HS6.out.res
   go_wp2
   refine bodyPost_ret (v := .tuple #[vecW 1 (some ⟨gg,0,none⟩,(c+63) / 64,(c+63) / 64) (c:Int) (none,0,0) (none,0,0) (none,0,0) (none,0,0) (none,0,0),.int .i64 0]) (ret_vec2 (fn:=Tryz.f233) (p:=8) (u:=9) rfl _ _ (w.heap.size+2) (by rfl) HRE.out) rfl ?_
   exact ⟨1,(some ⟨gg,0,none⟩,(c+63) / 64,(c+63) / 64),(c:Int),(none,0,0),(none,0,0),(none,0,0),(none,0,0),(none,0,0),rfl,HKE.out,HBE.out⟩
theorem rchars_alike16 (H:Nat->Prop) (p q:V8) (m n N:Nat) (F G:Nat->Int) (w:World) (hH:∀ b,H b->b < w.heap.size) (hL:lenP m n=some N) (hm:m<=1000000) (hn:n<=1000000)
  (hP:ClsV w p 1 m) (hQ:ClsV w q 1 n)
  (hCP:∀ W,Below w.heap.size w W->∀ j,j < m->Calls Tryz.prog 135 #[p.v,.int .i64 (j:Nat)] W fun e w'=>e= .returned (.int .i32 (F j))/\Below W.heap.size W w') (hCQ:∀ W,Below w.heap.size w W->∀ j,j < n->Calls Tryz.prog 135 #[q.v,.int .i64 (j:Nat)] W fun e w'=>e= .returned (.int .i32 (G j))/\Below W.heap.size W w') :
  Calls Tryz.prog 233 #[.int .i64 16,.int .i64 (N:Int),p.v,q.v] w (VecOk H w (fun u W=>NumV u 1 N (fun c=>flagF (!decide (F (ixP m c)=G (ixP n c)))) W)):=by
 have hNb:N<=1000000:=lenP_le hL hm hn
 have HP:=Lib.hid hP
 have HQ:=Lib.hid hQ
 have HKP:=Lib.hid hCP
 have HKQ:=Lib.hid hCQ
 clear hCP hCQ
 have HH:=Lib.hid hH
 have HIX:=Lib.hid (fun c (hc:c < N)=>ixP_lt hL hc)
 obtain ⟨R,hR⟩:∃ R:Nat->Bool,R=fun c => !decide (F (ixP m c)=G (ixP n c)):=⟨_,rfl⟩
 have HRR:Hid (∀ c,R c=(!decide (F (ixP m c)=G (ixP n c)))):=fun c=>by rw [hR]
 rw [show (fun c=>flagF (!decide (F (ixP m c)=G (ixP n c))))=fun c=>flagF (R c) by rw [hR]]
 clear hR
 have hmk:=run_make_row' (P:=Tryz.prog) 242 4 (.bool false) 1 Tryz.underlying242 info_bool rfl .i64 .i64 N (by omega) (by omega)
 obtain ⟨ff,hff⟩:∃ ff:Nat->Value,ff=fun c => .bool (R c):=⟨_,rfl⟩
 have HFF:Hid (∀ c,ff c= .bool (R c)):=fun c=>by rw [hff]
 clear hff
 have HA0:=Lib.hid (Ar2.new w p q 4 ff (.bool false) N (by unfold maxLen;omega))
 clear hP hQ hH hL
 go_enter Tryz.func233,Tryz.ntmps233
 go_wp2
 go_loopw [22] (fun j wr=>∃ c:Nat,c<=N/\j= .int .i64 c/\Ar2 w p q 4 ff (.bool false) N c wr) (fun j _=>N - (intOf j).toNat)
 case atStart=>exact ⟨0,Nat.zero_le _,rfl,HA0.out⟩
 case round =>
  clear HA0
  obtain ⟨c,hc,rfl,har⟩:=hrel
  have HAR:=Lib.hid har
  clear har
  by_cases hlt:c < N
  ·obtain ⟨hi1,hi2⟩:=HIX.out c hlt
   have HCP:=Lib.hid (fun W (hs:Ar2 w p q 4 ff (.bool false) N c W)=>HP.out.cls W hs.st.bel)
   have HCQ:=Lib.hid (fun W (hs:Ar2 w p q 4 ff (.bool false) N c W)=>HQ.out.cls W hs.st.bel)
   have HFC:Hid (ff c= .bool (!decide (F (ixP m c)=G (ixP n c)))):=by unfold Hid;rw [HFF.out,HRR.out]
   have HAP:=Lib.hid (fun W (hs:Ar2 w p q 4 ff (.bool false) N c W)=>rat_any p m c W (fun W' hb=>HP.out.len W' (bel_both hs.st.bel hb)))
   have HAQ:=Lib.hid (fun W (hs:Ar2 w p q 4 ff (.bool false) N c W)=>rat_any q n c W (fun W' hb=>HQ.out.len W' (bel_both hs.st.bel hb)))
   have HNP:=Lib.hid (fun W (hs:Ar2 w p q 4 ff (.bool false) N c W)=>HKP.out W hs.st.bel (ixP m c) hi1)
   have HNQ:=Lib.hid (fun W (hs:Ar2 w p q 4 ff (.bool false) N c W)=>HKQ.out W hs.st.bel (ixP n c) hi2)
   clear hi1 hi2
   generalize F (ixP m c)=xa at *
   generalize G (ixP n c)=xb at *
   generalize ixP m c=ia at *
   generalize ixP n c=ib at *
   go_upto_block 1 with fail
   go_cut [11,12] from 24 to 43 (fun x y wx=>x= .int .i64 (c:Int)/\y= .bool (decide (xa=xb))/\Ar2 w p q 4 ff (.bool false) N c wx)
   case first =>
    go_wp2_with fail
    have hs0:=HAR.out.dr
    have hs00:=HAR.out
    have hss0:=hs0.st
    have hss00:=hs00.st
    have hrc:=HAR.out.fill.cell hlt
    have hrf:=HAR.out.fill.frozen c
    have hrz:w.heap.size+3 < wr.heap.size:=HAR.out.fill.low.2
    go_region_held3 (fun W=>((W.cell? ⟨w.heap.size,0,none⟩=some (.int .i64 p.k)/\W.cell? ⟨w.heap.size,1,none⟩=some (.slice p.b.1 p.b.2.1 p.b.2.2)/\W.cell? ⟨w.heap.size,2,none⟩=some (.int .i64 p.bn)/\W.cell? ⟨w.heap.size,3,none⟩=some (.slice p.s.1 p.s.2.1 p.s.2.2)/\W.cell? ⟨w.heap.size,4,none⟩=some (.slice p.i.1 p.i.2.1 p.i.2.2)/\W.cell? ⟨w.heap.size,5,none⟩=some (.slice p.f.1 p.f.2.1 p.f.2.2)/\W.cell? ⟨w.heap.size,6,none⟩=some (.slice p.c.1 p.c.2.1 p.c.2.2)/\W.cell? ⟨w.heap.size,7,none⟩=some (.slice p.x.1 p.x.2.1 p.x.2.2))/\(W.cell? ⟨w.heap.size+1,0,none⟩=some (.int .i64 q.k)/\W.cell? ⟨w.heap.size+1,1,none⟩=some (.slice q.b.1 q.b.2.1 q.b.2.2)/\W.cell? ⟨w.heap.size+1,2,none⟩=some (.int .i64 q.bn)/\W.cell? ⟨w.heap.size+1,3,none⟩=some (.slice q.s.1 q.s.2.1 q.s.2.2)/\W.cell? ⟨w.heap.size+1,4,none⟩=some (.slice q.i.1 q.i.2.1 q.i.2.2)/\W.cell? ⟨w.heap.size+1,5,none⟩=some (.slice q.f.1 q.f.2.1 q.f.2.2)/\W.cell? ⟨w.heap.size+1,6,none⟩=some (.slice q.c.1 q.c.2.1 q.c.2.2)/\W.cell? ⟨w.heap.size+1,7,none⟩=some (.slice q.x.1 q.x.2.1 q.x.2.2)))/\St2 w W p q)
     (first | (with_reducible assumption) | (with_reducible (refine st2_s ?_);repeat (first | (with_reducible assumption) | (with_reducible refine St2.dr ?_) | (with_reducible refine St2.put ?_ (by first | assumption | omega | (simp;omega)) _))))
     (first
      | (go_at_call 58;(with_reducible refine (HCP.out _ ?_).mono ?_);exact Ar2.self (by repeat (first | (with_reducible assumption) | (with_reducible refine Ar2.dr ?_)));rintro e w1 ⟨rfl,hb1⟩;obtain ⟨hc1,hf1⟩:=bcell2 hb1;have hz1:=hb1.size;have hst1:Ar2 w p q 4 ff (.bool false) N c w1:=Ar2.step (by repeat (first | (with_reducible assumption) | (with_reducible refine Ar2.dr ?_))) hb1;have hss1:St2 w w1 p q:=hst1.st;have hcr1:=hst1.fill.cell hlt;have hfr1:=hst1.fill.frozen c;clear hb1)
      | (go_at_call 58;(with_reducible refine (HCQ.out _ ?_).mono ?_);exact Ar2.self (by repeat (first | (with_reducible assumption) | (with_reducible refine Ar2.dr ?_)));rintro e w2 ⟨rfl,hb2⟩;obtain ⟨hc2,hf2⟩:=bcell2 hb2;have hz2:=hb2.size;have hst2:Ar2 w p q 4 ff (.bool false) N c w2:=Ar2.step (by repeat (first | (with_reducible assumption) | (with_reducible refine Ar2.dr ?_))) hb2;have hss2:St2 w w2 p q:=hst2.st;have hcr2:=hst2.fill.cell hlt;have hfr2:=hst2.fill.frozen c;clear hb2)
      | (go_at_call 271;(with_reducible refine (HAP.out _ ?_).mono ?_);exact Ar2.self (by repeat (first | (with_reducible assumption) | (with_reducible refine Ar2.dr ?_)));rintro e w3 ⟨rfl,hb3⟩;obtain ⟨hc3,hf3⟩:=bcell2 hb3;have hz3:=hb3.size;have hst3:Ar2 w p q 4 ff (.bool false) N c w3:=Ar2.step (by repeat (first | (with_reducible assumption) | (with_reducible refine Ar2.dr ?_))) hb3;have hss3:St2 w w3 p q:=hst3.st;have hcr3:=hst3.fill.cell hlt;have hfr3:=hst3.fill.frozen c;clear hb3)
      | (go_at_call 271;(with_reducible refine (HAQ.out _ ?_).mono ?_);exact Ar2.self (by repeat (first | (with_reducible assumption) | (with_reducible refine Ar2.dr ?_)));rintro e w4 ⟨rfl,hb4⟩;obtain ⟨hc4,hf4⟩:=bcell2 hb4;have hz4:=hb4.size;have hst4:Ar2 w p q 4 ff (.bool false) N c w4:=Ar2.step (by repeat (first | (with_reducible assumption) | (with_reducible refine Ar2.dr ?_))) hb4;have hss4:St2 w w4 p q:=hst4.st;have hcr4:=hst4.fill.cell hlt;have hfr4:=hst4.fill.frozen c;clear hb4)
      | (go_at_call 135;(with_reducible refine (HNP.out _ ?_).mono ?_);exact Ar2.self (by repeat (first | (with_reducible assumption) | (with_reducible refine Ar2.dr ?_)));rintro e w5 ⟨rfl,hb5⟩;obtain ⟨hc5,hf5⟩:=bcell2 hb5;have hz5:=hb5.size;have hst5:Ar2 w p q 4 ff (.bool false) N c w5:=Ar2.step (by repeat (first | (with_reducible assumption) | (with_reducible refine Ar2.dr ?_))) hb5;have hss5:St2 w w5 p q:=hst5.st;have hcr5:=hst5.fill.cell hlt;have hfr5:=hst5.fill.frozen c;clear hb5)
      | (go_at_call 135;(with_reducible refine (HNQ.out _ ?_).mono ?_);exact Ar2.self (by repeat (first | (with_reducible assumption) | (with_reducible refine Ar2.dr ?_)));rintro e w6 ⟨rfl,hb6⟩;obtain ⟨hc6,hf6⟩:=bcell2 hb6;have hz6:=hb6.size;have hst6:Ar2 w p q 4 ff (.bool false) N c w6:=Ar2.step (by repeat (first | (with_reducible assumption) | (with_reducible refine Ar2.dr ?_))) hb6;have hss6:St2 w w6 p q:=hst6.st;have hcr6:=hst6.fill.cell hlt;have hfr6:=hst6.fill.frozen c;clear hb6))
    all_goals
     go_wp2
     go_meet
     (with_reducible exact ⟨rfl,rfl,hst6⟩)
   case rest =>
    obtain ⟨rfl,rfl,har⟩:=hcut
    have HAR2:=Lib.hid har
    clear har HAR
    have hrc:=HAR2.out.fill.cell hlt
    have hrf:=HAR2.out.fill.frozen c
    have hrz:w.heap.size+3 < wc.heap.size:=HAR2.out.fill.low.2
    go_wp2
    go_roundw
    case rel=>exact ⟨c+1,by omega,by go_num,rl_put HAR2.out hlt (by rw [HFC.out];try simp)⟩
    case measure=>simp [intOf];omega
  ·obtain rfl:c=N:=by omega
   have HPK:=Lib.hid (pack_any (w.heap.size+3) 0 c c R (by omega) (Nat.le_refl _) wr (fun i hi=>by
    rw [Nat.zero_add,HAR.out.fill.done i hi (Nat.le_refl _),HFF.out]))
   go_wp2_with fail
   refine HPK.out.mono ?_
   rintro e w5 ⟨gg,rfl,hr5,hb5⟩
   have HS5:=Lib.hid (HAR.out.st.step hb5)
   have HGW:Hid (wr.heap.size<=gg):=hr5.low.1
   have HGS:Hid (w.heap.size+3<=wr.heap.size):=HAR.out.st.sz
   have HR5:=Lib.hid hr5
   clear hb5 hr5
   go_wp2_with fail
   refine (vbits_any _ _ _ _ _).mono ?_
   rintro e w6 ⟨rfl,hb6⟩
   have HS6:=Lib.hid (HS5.out.step hb6)
   have HR6:=Lib.hid (HR5.out.below hb6)
   clear hb6
   have HRE:=Lib.hid (set8_block HS6.out.res (.int .i64 1) (.slice (some ⟨gg,0,none⟩) ((c+63) / 64) ((c+63) / 64)) (.int .i64 (c:Int)) vnil vnil vnil vnil vnil)
   have HBE:=Lib.hid (below_set8 HS6.out.bel (Nat.le_add_right _ 2) (.int .i64 1) (.slice (some ⟨gg,0,none⟩) ((c+63) / 64) ((c+63) / 64)) (.int .i64 (c:Int)) vnil vnil vnil vnil vnil)
   have HKE:Hid (Keeps H (set8 w6 (w.heap.size+2) (.int .i64 1) (.slice (some ⟨gg,0,none⟩) ((c+63) / 64) ((c+63) / 64)) (.int .i64 (c:Int)) vnil vnil vnil vnil vnil) (NumV (vecW 1 (some ⟨gg,0,none⟩,(c+63) / 64,(c+63) / 64) (c:Int) (none,0,0) (none,0,0) (none,0,0) (none,0,0) (none,0,0)) 1 c (fun c=>flagF (R c)))):=by
    have h1:Keeps (fun j=>H j\/j=w.heap.size+2) w6 (fun W=>Reads1 W (.slice (some ⟨gg,0,none⟩) ((c+63) / 64) ((c+63) / 64)) ((List.range ((c+63) / 64)).map fun j => .int .u64 (packW R c j:Nat))) :=
     Own1.keepsH HR6.out (fun j e=>by
      have h1:=HGW.out
      have h2:=HGS.out
      rcases e with e | e
      ·have:=HH.out j e;omega
      ·omega)
    refine ((h1.imp fun W' h=>numV_bits (by omega) ⟨_,rfl,⟨gg,0,_,rfl,fun j hj=>?_⟩⟩).set8 (.inr rfl) _ _ _ _ _ _ _ _).sub fun _ _ e => .inl e
    exact reads_cell h j hj
   clear HR5 HR6
   obtain ⟨⟨h0,h1,h2,h3,h4,h5,h6,h7⟩,hz⟩:=boxed_of HS6.out.res
   go_wp2
   refine bodyPost_ret (v := .tuple #[vecW 1 (some ⟨gg,0,none⟩,(c+63) / 64,(c+63) / 64) (c:Int) (none,0,0) (none,0,0) (none,0,0) (none,0,0) (none,0,0),.int .i64 0]) (ret_vec2 (fn:=Tryz.f233) (p:=8) (u:=9) rfl _ _ (w.heap.size+2) (by rfl) HRE.out) rfl ?_
   exact ⟨1,(some ⟨gg,0,none⟩,(c+63) / 64,(c+63) / 64),(c:Int),(none,0,0),(none,0,0),(none,0,0),(none,0,0),(none,0,0),rfl,HKE.out,HBE.out⟩
theorem rchars_unlike13 (H:Nat->Prop) (p q:V8) (m n N:Nat) (z1 z2:Int) (hz:z1≠z2) (w:World) (hH:∀ b,H b->b < w.heap.size) (hL:lenP m n=some N) (hm:m<=1000000) (hn:n<=1000000)
  (hP:ClsV w p z1 m) (hQ:ClsV w q z2 n) :
  Calls Tryz.prog 233 #[.int .i64 13,.int .i64 (N:Int),p.v,q.v] w (VecOk H w (fun u W=>NumV u 1 N (fun _=>flagF (false)) W)):=by
 have hNb:N<=1000000:=lenP_le hL hm hn
 have HP:=Lib.hid hP
 have HQ:=Lib.hid hQ
 have z12:(z1==z2)=false:=by simpa using hz
 clear hz
 have HH:=Lib.hid hH
 have HIX:=Lib.hid (fun c (hc:c < N)=>ixP_lt hL hc)
 obtain ⟨R,hR⟩:∃ R:Nat->Bool,R=fun _=>false:=⟨_,rfl⟩
 have HRR:Hid (∀ c,R c=(false)):=fun c=>by rw [hR]
 rw [show (fun _=>flagF (false))=fun c=>flagF (R c) by rw [hR]]
 clear hR
 have hmk:=run_make_row' (P:=Tryz.prog) 242 4 (.bool false) 1 Tryz.underlying242 info_bool rfl .i64 .i64 N (by omega) (by omega)
 obtain ⟨ff,hff⟩:∃ ff:Nat->Value,ff=fun c => .bool (R c):=⟨_,rfl⟩
 have HFF:Hid (∀ c,ff c= .bool (R c)):=fun c=>by rw [hff]
 clear hff
 have HA0:=Lib.hid (Ar2.new w p q 4 ff (.bool false) N (by unfold maxLen;omega))
 clear hP hQ hH hL
 go_enter Tryz.func233,Tryz.ntmps233
 go_wp2
 go_loopw [22] (fun j wr=>∃ c:Nat,c<=N/\j= .int .i64 c/\Ar2 w p q 4 ff (.bool false) N c wr) (fun j _=>N - (intOf j).toNat)
 case atStart=>exact ⟨0,Nat.zero_le _,rfl,HA0.out⟩
 case round =>
  clear HA0
  obtain ⟨c,hc,rfl,har⟩:=hrel
  have HAR:=Lib.hid har
  clear har
  by_cases hlt:c < N
  ·obtain ⟨hi1,hi2⟩:=HIX.out c hlt
   have HCP:=Lib.hid (fun W (hs:Ar2 w p q 4 ff (.bool false) N c W)=>HP.out.cls W hs.st.bel)
   have HCQ:=Lib.hid (fun W (hs:Ar2 w p q 4 ff (.bool false) N c W)=>HQ.out.cls W hs.st.bel)
   have HFC:Hid (ff c= .bool (false)):=by unfold Hid;rw [HFF.out,HRR.out]
   go_upto_block 1 with fail
   go_wp2_with fail
   refine wp_region_any (by kernel_rfl) ?_
   change wpAny _ _ _ _ _ _ _ (World.drew _)
   have HA1:=Lib.hid (HAR.out.dr)
   generalize wr.drew=w1 at HA1 ⊢
   obtain ⟨h0,h1,h2,h3,h4,h5,h6,h7⟩:=HA1.out.st.one
   obtain ⟨g0,g1,g2,g3,g4,g5,g6,g7⟩:=HA1.out.st.two
   refine wpAny_ready (rs:=[0,2]) (by kernel_rfl) (by simp) ?_
   refine AllReady.cons rfl (fun K hK=>?_) (AllReady.cons rfl (fun K hK=>?_) AllReady.nil)
   ·go_simp
    refine hK _ _ ?_
    clear hK K
    refine wpAny_ready (rs:=[1,2]) (by kernel_rfl) (by simp) ?_
    refine AllReady.cons rfl (fun K hK=>?_) (AllReady.cons rfl (fun K hK=>?_) AllReady.nil)
    ·clear g0 g1 g2 g3 g4 g5 g6 g7
     go_simp
     go_wp2_with (go_at_call 58;refine (HCP.out _ HA1.out).mono ?_;rintro e w2 ⟨rfl,hb⟩;have HA2:=Lib.hid (HA1.out.step hb);clear hb;obtain ⟨g0,g1,g2,g3,g4,g5,g6,g7⟩:=HA2.out.st.two)
     refine wpAny_ready (rs:=[2]) (by kernel_rfl) (by simp) ?_
     refine AllReady.cons rfl (fun K hK=>?_) AllReady.nil
     go_simp
     refine hK _ _ ?_
     clear hK K
     refine wpAny_ready (rs:=[3]) (by kernel_rfl) (by simp) ?_
     refine AllReady.cons rfl (fun K hK=>?_) AllReady.nil
     clear g0 g1 g2 g3 g4 g5 g6 g7
     go_simp
     go_wp2_with (go_at_call 58;refine (HCQ.out _ HA2.out).mono ?_;rintro e w3 ⟨rfl,hb⟩;have HA3:=Lib.hid (HA2.out.step hb);clear hb;obtain ⟨g0,g1,g2,g3,g4,g5,g6,g7⟩:=HA3.out.st.two)
     refine wpAny_take (i:=4) (v:=?v1) rfl (by kernel_rfl) (by kernel_rfl) (by kernel_rfl) (fun _ _ _ h=>h) (Or.inl ⟨by rfl,?hy1⟩) ?rs1
     case hy1=>(intro w;go_simp;try with_reducible rfl)
     refine wpAny_take (i:=5) (v:=?v2) rfl (by kernel_rfl) (by kernel_rfl) (by kernel_rfl) (fun _ _ _ h=>h) (Or.inl ⟨by rfl,?hy2⟩) ?rs2
     case hy2=>(intro w;go_simp;try with_reducible rfl)
     refine wpAny_take (i:=6) (v:=undef) rfl (by kernel_rfl) (by kernel_rfl) (by kernel_rfl) (fun _ _ _ h=>h) (Or.inr ⟨by (go_simp <;> (intro h;cases h)),rfl⟩) ?_
     refine wpAny_take (i:=7) (v:=undef) rfl (by kernel_rfl) (by kernel_rfl) (by kernel_rfl) (fun _ _ _ h=>h) (Or.inr ⟨by (go_simp <;> (intro h;cases h)),rfl⟩) ?_
     refine wpAny_take (i:=8) (v:=undef) rfl (by kernel_rfl) (by kernel_rfl) (by kernel_rfl) (fun _ _ _ h=>h) (Or.inr ⟨by (go_simp <;> (intro h;cases h)),rfl⟩) ?_
     refine wpAny_take (i:=9) (v:=undef) rfl (by kernel_rfl) (by kernel_rfl) (by kernel_rfl) (fun _ _ _ h=>h) (Or.inr ⟨by (go_simp <;> (intro h;cases h)),rfl⟩) ?_
     refine wpAny_take (i:=10) (v:=undef) rfl (by kernel_rfl) (by kernel_rfl) (by kernel_rfl) (fun _ _ _ h=>h) (Or.inr ⟨by (go_simp <;> (intro h;cases h)),rfl⟩) ?_
     refine wpAny_take (i:=11) (v:=undef) rfl (by kernel_rfl) (by kernel_rfl) (by kernel_rfl) (fun _ _ _ h=>h) (Or.inr ⟨by (go_simp <;> (intro h;cases h)),rfl⟩) ?_
     refine wpAny_take (i:=12) (v:=undef) rfl (by kernel_rfl) (by kernel_rfl) (by kernel_rfl) (fun _ _ _ h=>h) (Or.inr ⟨by (go_simp <;> (intro h;cases h)),rfl⟩) ?_
     refine wpAny_take (i:=13) (v:=undef) rfl (by kernel_rfl) (by kernel_rfl) (by kernel_rfl) (fun _ _ _ h=>h) (Or.inr ⟨by (go_simp <;> (intro h;cases h)),rfl⟩) ?_
     refine wpAny_take (i:=14) (v:=undef) rfl (by kernel_rfl) (by kernel_rfl) (by kernel_rfl) (fun _ _ _ h=>h) (Or.inr ⟨by (go_simp <;> (intro h;cases h)),rfl⟩) ?_
     refine wpAny_take (i:=15) (v:=undef) rfl (by kernel_rfl) (by kernel_rfl) (by kernel_rfl) (fun _ _ _ h=>h) (Or.inr ⟨by (go_simp <;> (intro h;cases h)),rfl⟩) ?_
     refine wpAny_take (i:=16) (v:=undef) rfl (by kernel_rfl) (by kernel_rfl) (by kernel_rfl) (fun _ _ _ h=>h) (Or.inr ⟨by (go_simp <;> (intro h;cases h)),rfl⟩) ?_
     refine wpAny_take (i:=17) (v:=?v3) rfl (by kernel_rfl) (by kernel_rfl) (by kernel_rfl) (fun _ _ _ h=>h) (Or.inl ⟨by rfl,?hy3⟩) ?rs3
     case hy3=>(intro w;go_simp;try with_reducible rfl)
     refine wpAny_take (i:=18) (v:=?v4) rfl (by kernel_rfl) (by kernel_rfl) (by kernel_rfl) (fun _ _ _ h=>h) (Or.inl ⟨by rfl,?hy4⟩) ?rs4
     case hy4=>(intro w;go_simp;try with_reducible rfl)
     refine wpAny_done (by kernel_rfl) ?_ _
     clear g0 g1 g2 g3 g4 g5 g6 g7 h0 h1 h2 h3 h4 h5 h6 h7
     have hrc:=HA3.out.fill.cell hlt
     have hrf:=HA3.out.fill.frozen c
     have hrz:w.heap.size+3 < w3.heap.size:=HA3.out.fill.low.2
     go_wp2
     go_roundw
     case rel=>exact ⟨c+1,by omega,by go_num,rl_put HA3.out hlt (by rw [HFC.out];try simp)⟩
     case measure=>simp [intOf];omega
    ·go_simp
     refine hK _ _ ?_
     clear hK K
     refine wpAny_ready (rs:=[1]) (by kernel_rfl) (by simp) ?_
     refine AllReady.cons rfl (fun K hK=>?_) AllReady.nil
     clear g0 g1 g2 g3 g4 g5 g6 g7
     go_simp
     go_wp2_with (go_at_call 58;refine (HCP.out _ HA1.out).mono ?_;rintro e w2 ⟨rfl,hb⟩;have HA2:=Lib.hid (HA1.out.step hb);clear hb;obtain ⟨g0,g1,g2,g3,g4,g5,g6,g7⟩:=HA2.out.st.two)
     refine wpAny_ready (rs:=[3]) (by kernel_rfl) (by simp) ?_
     refine AllReady.cons rfl (fun K hK=>?_) AllReady.nil
     clear g0 g1 g2 g3 g4 g5 g6 g7
     go_simp
     go_wp2_with (go_at_call 58;refine (HCQ.out _ HA2.out).mono ?_;rintro e w3 ⟨rfl,hb⟩;have HA3:=Lib.hid (HA2.out.step hb);clear hb;obtain ⟨g0,g1,g2,g3,g4,g5,g6,g7⟩:=HA3.out.st.two)
     refine wpAny_take (i:=4) (v:=?v5) rfl (by kernel_rfl) (by kernel_rfl) (by kernel_rfl) (fun _ _ _ h=>h) (Or.inl ⟨by rfl,?hy5⟩) ?rs5
     case hy5=>(intro w;go_simp;try with_reducible rfl)
     refine wpAny_take (i:=5) (v:=?v6) rfl (by kernel_rfl) (by kernel_rfl) (by kernel_rfl) (fun _ _ _ h=>h) (Or.inl ⟨by rfl,?hy6⟩) ?rs6
     case hy6=>(intro w;go_simp;try with_reducible rfl)
     refine wpAny_take (i:=6) (v:=undef) rfl (by kernel_rfl) (by kernel_rfl) (by kernel_rfl) (fun _ _ _ h=>h) (Or.inr ⟨by (go_simp <;> (intro h;cases h)),rfl⟩) ?_
     refine wpAny_take (i:=7) (v:=undef) rfl (by kernel_rfl) (by kernel_rfl) (by kernel_rfl) (fun _ _ _ h=>h) (Or.inr ⟨by (go_simp <;> (intro h;cases h)),rfl⟩) ?_
     refine wpAny_take (i:=8) (v:=undef) rfl (by kernel_rfl) (by kernel_rfl) (by kernel_rfl) (fun _ _ _ h=>h) (Or.inr ⟨by (go_simp <;> (intro h;cases h)),rfl⟩) ?_
     refine wpAny_take (i:=9) (v:=undef) rfl (by kernel_rfl) (by kernel_rfl) (by kernel_rfl) (fun _ _ _ h=>h) (Or.inr ⟨by (go_simp <;> (intro h;cases h)),rfl⟩) ?_
     refine wpAny_take (i:=10) (v:=undef) rfl (by kernel_rfl) (by kernel_rfl) (by kernel_rfl) (fun _ _ _ h=>h) (Or.inr ⟨by (go_simp <;> (intro h;cases h)),rfl⟩) ?_
     refine wpAny_take (i:=11) (v:=undef) rfl (by kernel_rfl) (by kernel_rfl) (by kernel_rfl) (fun _ _ _ h=>h) (Or.inr ⟨by (go_simp <;> (intro h;cases h)),rfl⟩) ?_
     refine wpAny_take (i:=12) (v:=undef) rfl (by kernel_rfl) (by kernel_rfl) (by kernel_rfl) (fun _ _ _ h=>h) (Or.inr ⟨by (go_simp <;> (intro h;cases h)),rfl⟩) ?_
     refine wpAny_take (i:=13) (v:=undef) rfl (by kernel_rfl) (by kernel_rfl) (by kernel_rfl) (fun _ _ _ h=>h) (Or.inr ⟨by (go_simp <;> (intro h;cases h)),rfl⟩) ?_
     refine wpAny_take (i:=14) (v:=undef) rfl (by kernel_rfl) (by kernel_rfl) (by kernel_rfl) (fun _ _ _ h=>h) (Or.inr ⟨by (go_simp <;> (intro h;cases h)),rfl⟩) ?_
     refine wpAny_take (i:=15) (v:=undef) rfl (by kernel_rfl) (by kernel_rfl) (by kernel_rfl) (fun _ _ _ h=>h) (Or.inr ⟨by (go_simp <;> (intro h;cases h)),rfl⟩) ?_
     refine wpAny_take (i:=16) (v:=undef) rfl (by kernel_rfl) (by kernel_rfl) (by kernel_rfl) (fun _ _ _ h=>h) (Or.inr ⟨by (go_simp <;> (intro h;cases h)),rfl⟩) ?_
     refine wpAny_take (i:=17) (v:=?v7) rfl (by kernel_rfl) (by kernel_rfl) (by kernel_rfl) (fun _ _ _ h=>h) (Or.inl ⟨by rfl,?hy7⟩) ?rs7
     case hy7=>(intro w;go_simp;try with_reducible rfl)
     refine wpAny_take (i:=18) (v:=?v8) rfl (by kernel_rfl) (by kernel_rfl) (by kernel_rfl) (fun _ _ _ h=>h) (Or.inl ⟨by rfl,?hy8⟩) ?rs8
     case hy8=>(intro w;go_simp;try with_reducible rfl)
     refine wpAny_done (by kernel_rfl) ?_ _
     clear g0 g1 g2 g3 g4 g5 g6 g7 h0 h1 h2 h3 h4 h5 h6 h7
     have hrc:=HA3.out.fill.cell hlt
     have hrf:=HA3.out.fill.frozen c
     have hrz:w.heap.size+3 < w3.heap.size:=HA3.out.fill.low.2
     go_wp2
     go_roundw
     case rel=>exact ⟨c+1,by omega,by go_num,rl_put HA3.out hlt (by rw [HFC.out];try simp)⟩
     case measure=>simp [intOf];omega
   ·go_simp
    refine hK _ _ ?_
    clear hK K
    refine wpAny_ready (rs:=[0]) (by kernel_rfl) (by simp) ?_
    refine AllReady.cons rfl (fun K hK=>?_) AllReady.nil
    go_simp
    refine hK _ _ ?_
    clear hK K
    refine wpAny_ready (rs:=[1]) (by kernel_rfl) (by simp) ?_
    refine AllReady.cons rfl (fun K hK=>?_) AllReady.nil
    clear g0 g1 g2 g3 g4 g5 g6 g7
    go_simp
    go_wp2_with (go_at_call 58;refine (HCP.out _ HA1.out).mono ?_;rintro e w2 ⟨rfl,hb⟩;have HA2:=Lib.hid (HA1.out.step hb);clear hb;obtain ⟨g0,g1,g2,g3,g4,g5,g6,g7⟩:=HA2.out.st.two)
    refine wpAny_ready (rs:=[3]) (by kernel_rfl) (by simp) ?_
    refine AllReady.cons rfl (fun K hK=>?_) AllReady.nil
    clear g0 g1 g2 g3 g4 g5 g6 g7
    go_simp
    go_wp2_with (go_at_call 58;refine (HCQ.out _ HA2.out).mono ?_;rintro e w3 ⟨rfl,hb⟩;have HA3:=Lib.hid (HA2.out.step hb);clear hb;obtain ⟨g0,g1,g2,g3,g4,g5,g6,g7⟩:=HA3.out.st.two)
    refine wpAny_take (i:=4) (v:=?v9) rfl (by kernel_rfl) (by kernel_rfl) (by kernel_rfl) (fun _ _ _ h=>h) (Or.inl ⟨by rfl,?hy9⟩) ?rs9
    case hy9=>(intro w;go_simp;try with_reducible rfl)
    refine wpAny_take (i:=5) (v:=?v10) rfl (by kernel_rfl) (by kernel_rfl) (by kernel_rfl) (fun _ _ _ h=>h) (Or.inl ⟨by rfl,?hy10⟩) ?rs10
    case hy10=>(intro w;go_simp;try with_reducible rfl)
    refine wpAny_take (i:=6) (v:=undef) rfl (by kernel_rfl) (by kernel_rfl) (by kernel_rfl) (fun _ _ _ h=>h) (Or.inr ⟨by (go_simp <;> (intro h;cases h)),rfl⟩) ?_
    refine wpAny_take (i:=7) (v:=undef) rfl (by kernel_rfl) (by kernel_rfl) (by kernel_rfl) (fun _ _ _ h=>h) (Or.inr ⟨by (go_simp <;> (intro h;cases h)),rfl⟩) ?_
    refine wpAny_take (i:=8) (v:=undef) rfl (by kernel_rfl) (by kernel_rfl) (by kernel_rfl) (fun _ _ _ h=>h) (Or.inr ⟨by (go_simp <;> (intro h;cases h)),rfl⟩) ?_
    refine wpAny_take (i:=9) (v:=undef) rfl (by kernel_rfl) (by kernel_rfl) (by kernel_rfl) (fun _ _ _ h=>h) (Or.inr ⟨by (go_simp <;> (intro h;cases h)),rfl⟩) ?_
    refine wpAny_take (i:=10) (v:=undef) rfl (by kernel_rfl) (by kernel_rfl) (by kernel_rfl) (fun _ _ _ h=>h) (Or.inr ⟨by (go_simp <;> (intro h;cases h)),rfl⟩) ?_
    refine wpAny_take (i:=11) (v:=undef) rfl (by kernel_rfl) (by kernel_rfl) (by kernel_rfl) (fun _ _ _ h=>h) (Or.inr ⟨by (go_simp <;> (intro h;cases h)),rfl⟩) ?_
    refine wpAny_take (i:=12) (v:=undef) rfl (by kernel_rfl) (by kernel_rfl) (by kernel_rfl) (fun _ _ _ h=>h) (Or.inr ⟨by (go_simp <;> (intro h;cases h)),rfl⟩) ?_
    refine wpAny_take (i:=13) (v:=undef) rfl (by kernel_rfl) (by kernel_rfl) (by kernel_rfl) (fun _ _ _ h=>h) (Or.inr ⟨by (go_simp <;> (intro h;cases h)),rfl⟩) ?_
    refine wpAny_take (i:=14) (v:=undef) rfl (by kernel_rfl) (by kernel_rfl) (by kernel_rfl) (fun _ _ _ h=>h) (Or.inr ⟨by (go_simp <;> (intro h;cases h)),rfl⟩) ?_
    refine wpAny_take (i:=15) (v:=undef) rfl (by kernel_rfl) (by kernel_rfl) (by kernel_rfl) (fun _ _ _ h=>h) (Or.inr ⟨by (go_simp <;> (intro h;cases h)),rfl⟩) ?_
    refine wpAny_take (i:=16) (v:=undef) rfl (by kernel_rfl) (by kernel_rfl) (by kernel_rfl) (fun _ _ _ h=>h) (Or.inr ⟨by (go_simp <;> (intro h;cases h)),rfl⟩) ?_
    refine wpAny_take (i:=17) (v:=?v11) rfl (by kernel_rfl) (by kernel_rfl) (by kernel_rfl) (fun _ _ _ h=>h) (Or.inl ⟨by rfl,?hy11⟩) ?rs11
    case hy11=>(intro w;go_simp;try with_reducible rfl)
    refine wpAny_take (i:=18) (v:=?v12) rfl (by kernel_rfl) (by kernel_rfl) (by kernel_rfl) (fun _ _ _ h=>h) (Or.inl ⟨by rfl,?hy12⟩) ?rs12
    case hy12=>(intro w;go_simp;try with_reducible rfl)
    refine wpAny_done (by kernel_rfl) ?_ _
    clear g0 g1 g2 g3 g4 g5 g6 g7 h0 h1 h2 h3 h4 h5 h6 h7
    have hrc:=HA3.out.fill.cell hlt
    have hrf:=HA3.out.fill.frozen c
    have hrz:w.heap.size+3 < w3.heap.size:=HA3.out.fill.low.2
    go_wp2
    go_roundw
    case rel=>exact ⟨c+1,by omega,by go_num,rl_put HA3.out hlt (by rw [HFC.out];try simp)⟩
    case measure=>simp [intOf];omega
  ·obtain rfl:c=N:=by omega
   have HPK:=Lib.hid (pack_any (w.heap.size+3) 0 c c R (by omega) (Nat.le_refl _) wr (fun i hi=>by
    rw [Nat.zero_add,HAR.out.fill.done i hi (Nat.le_refl _),HFF.out]))
   go_wp2_with fail
   refine HPK.out.mono ?_
   rintro e w5 ⟨gg,rfl,hr5,hb5⟩
   have HS5:=Lib.hid (HAR.out.st.step hb5)
   have HGW:Hid (wr.heap.size<=gg):=hr5.low.1
   have HGS:Hid (w.heap.size+3<=wr.heap.size):=HAR.out.st.sz
   have HR5:=Lib.hid hr5
   clear hb5 hr5
   go_wp2_with fail
   refine (vbits_any _ _ _ _ _).mono ?_
   rintro e w6 ⟨rfl,hb6⟩
   have HS6:=Lib.hid (HS5.out.step hb6)
   have HR6:=Lib.hid (HR5.out.below hb6)
   clear hb6
   have HRE:=Lib.hid (set8_block HS6.out.res (.int .i64 1) (.slice (some ⟨gg,0,none⟩) ((c+63) / 64) ((c+63) / 64)) (.int .i64 (c:Int)) vnil vnil vnil vnil vnil)
   have HBE:=Lib.hid (below_set8 HS6.out.bel (Nat.le_add_right _ 2) (.int .i64 1) (.slice (some ⟨gg,0,none⟩) ((c+63) / 64) ((c+63) / 64)) (.int .i64 (c:Int)) vnil vnil vnil vnil vnil)
   have HKE:Hid (Keeps H (set8 w6 (w.heap.size+2) (.int .i64 1) (.slice (some ⟨gg,0,none⟩) ((c+63) / 64) ((c+63) / 64)) (.int .i64 (c:Int)) vnil vnil vnil vnil vnil) (NumV (vecW 1 (some ⟨gg,0,none⟩,(c+63) / 64,(c+63) / 64) (c:Int) (none,0,0) (none,0,0) (none,0,0) (none,0,0) (none,0,0)) 1 c (fun c=>flagF (R c)))):=by
    have h1:Keeps (fun j=>H j\/j=w.heap.size+2) w6 (fun W=>Reads1 W (.slice (some ⟨gg,0,none⟩) ((c+63) / 64) ((c+63) / 64)) ((List.range ((c+63) / 64)).map fun j => .int .u64 (packW R c j:Nat))) :=
     Own1.keepsH HR6.out (fun j e=>by
      have h1:=HGW.out
      have h2:=HGS.out
      rcases e with e | e
      ·have:=HH.out j e;omega
      ·omega)
    refine ((h1.imp fun W' h=>numV_bits (by omega) ⟨_,rfl,⟨gg,0,_,rfl,fun j hj=>?_⟩⟩).set8 (.inr rfl) _ _ _ _ _ _ _ _).sub fun _ _ e => .inl e
    exact reads_cell h j hj
   clear HR5 HR6
   obtain ⟨⟨h0,h1,h2,h3,h4,h5,h6,h7⟩,hz⟩:=boxed_of HS6.out.res
   go_wp2
   refine bodyPost_ret (v := .tuple #[vecW 1 (some ⟨gg,0,none⟩,(c+63) / 64,(c+63) / 64) (c:Int) (none,0,0) (none,0,0) (none,0,0) (none,0,0) (none,0,0),.int .i64 0]) (ret_vec2 (fn:=Tryz.f233) (p:=8) (u:=9) rfl _ _ (w.heap.size+2) (by rfl) HRE.out) rfl ?_
   exact ⟨1,(some ⟨gg,0,none⟩,(c+63) / 64,(c+63) / 64),(c:Int),(none,0,0),(none,0,0),(none,0,0),(none,0,0),(none,0,0),rfl,HKE.out,HBE.out⟩
theorem rchars_unlike16 (H:Nat->Prop) (p q:V8) (m n N:Nat) (z1 z2:Int) (hz:z1≠z2) (w:World) (hH:∀ b,H b->b < w.heap.size) (hL:lenP m n=some N) (hm:m<=1000000) (hn:n<=1000000)
  (hP:ClsV w p z1 m) (hQ:ClsV w q z2 n) :
  Calls Tryz.prog 233 #[.int .i64 16,.int .i64 (N:Int),p.v,q.v] w (VecOk H w (fun u W=>NumV u 1 N (fun _=>flagF (true)) W)):=by
 have hNb:N<=1000000:=lenP_le hL hm hn
 have HP:=Lib.hid hP
 have HQ:=Lib.hid hQ
 have z12:(z1==z2)=false:=by simpa using hz
 clear hz
 have HH:=Lib.hid hH
 have HIX:=Lib.hid (fun c (hc:c < N)=>ixP_lt hL hc)
 obtain ⟨R,hR⟩:∃ R:Nat->Bool,R=fun _=>true:=⟨_,rfl⟩
 have HRR:Hid (∀ c,R c=(true)):=fun c=>by rw [hR]
 rw [show (fun _=>flagF (true))=fun c=>flagF (R c) by rw [hR]]
 clear hR
 have hmk:=run_make_row' (P:=Tryz.prog) 242 4 (.bool false) 1 Tryz.underlying242 info_bool rfl .i64 .i64 N (by omega) (by omega)
 obtain ⟨ff,hff⟩:∃ ff:Nat->Value,ff=fun c => .bool (R c):=⟨_,rfl⟩
 have HFF:Hid (∀ c,ff c= .bool (R c)):=fun c=>by rw [hff]
 clear hff
 have HA0:=Lib.hid (Ar2.new w p q 4 ff (.bool false) N (by unfold maxLen;omega))
 clear hP hQ hH hL
 go_enter Tryz.func233,Tryz.ntmps233
 go_wp2
 go_loopw [22] (fun j wr=>∃ c:Nat,c<=N/\j= .int .i64 c/\Ar2 w p q 4 ff (.bool false) N c wr) (fun j _=>N - (intOf j).toNat)
 case atStart=>exact ⟨0,Nat.zero_le _,rfl,HA0.out⟩
 case round =>
  clear HA0
  obtain ⟨c,hc,rfl,har⟩:=hrel
  have HAR:=Lib.hid har
  clear har
  by_cases hlt:c < N
  ·obtain ⟨hi1,hi2⟩:=HIX.out c hlt
   have HCP:=Lib.hid (fun W (hs:Ar2 w p q 4 ff (.bool false) N c W)=>HP.out.cls W hs.st.bel)
   have HCQ:=Lib.hid (fun W (hs:Ar2 w p q 4 ff (.bool false) N c W)=>HQ.out.cls W hs.st.bel)
   have HFC:Hid (ff c= .bool (true)):=by unfold Hid;rw [HFF.out,HRR.out]
   go_upto_block 1 with fail
   go_wp2_with fail
   refine wp_region_any (by kernel_rfl) ?_
   change wpAny _ _ _ _ _ _ _ (World.drew _)
   have HA1:=Lib.hid (HAR.out.dr)
   generalize wr.drew=w1 at HA1 ⊢
   obtain ⟨h0,h1,h2,h3,h4,h5,h6,h7⟩:=HA1.out.st.one
   obtain ⟨g0,g1,g2,g3,g4,g5,g6,g7⟩:=HA1.out.st.two
   refine wpAny_ready (rs:=[0,2]) (by kernel_rfl) (by simp) ?_
   refine AllReady.cons rfl (fun K hK=>?_) (AllReady.cons rfl (fun K hK=>?_) AllReady.nil)
   ·go_simp
    refine hK _ _ ?_
    clear hK K
    refine wpAny_ready (rs:=[1,2]) (by kernel_rfl) (by simp) ?_
    refine AllReady.cons rfl (fun K hK=>?_) (AllReady.cons rfl (fun K hK=>?_) AllReady.nil)
    ·clear g0 g1 g2 g3 g4 g5 g6 g7
     go_simp
     go_wp2_with (go_at_call 58;refine (HCP.out _ HA1.out).mono ?_;rintro e w2 ⟨rfl,hb⟩;have HA2:=Lib.hid (HA1.out.step hb);clear hb;obtain ⟨g0,g1,g2,g3,g4,g5,g6,g7⟩:=HA2.out.st.two)
     refine wpAny_ready (rs:=[2]) (by kernel_rfl) (by simp) ?_
     refine AllReady.cons rfl (fun K hK=>?_) AllReady.nil
     go_simp
     refine hK _ _ ?_
     clear hK K
     refine wpAny_ready (rs:=[3]) (by kernel_rfl) (by simp) ?_
     refine AllReady.cons rfl (fun K hK=>?_) AllReady.nil
     clear g0 g1 g2 g3 g4 g5 g6 g7
     go_simp
     go_wp2_with (go_at_call 58;refine (HCQ.out _ HA2.out).mono ?_;rintro e w3 ⟨rfl,hb⟩;have HA3:=Lib.hid (HA2.out.step hb);clear hb;obtain ⟨g0,g1,g2,g3,g4,g5,g6,g7⟩:=HA3.out.st.two)
     refine wpAny_take (i:=4) (v:=?v13) rfl (by kernel_rfl) (by kernel_rfl) (by kernel_rfl) (fun _ _ _ h=>h) (Or.inl ⟨by rfl,?hy13⟩) ?rs13
     case hy13=>(intro w;go_simp;try with_reducible rfl)
     refine wpAny_take (i:=5) (v:=?v14) rfl (by kernel_rfl) (by kernel_rfl) (by kernel_rfl) (fun _ _ _ h=>h) (Or.inl ⟨by rfl,?hy14⟩) ?rs14
     case hy14=>(intro w;go_simp;try with_reducible rfl)
     refine wpAny_take (i:=6) (v:=undef) rfl (by kernel_rfl) (by kernel_rfl) (by kernel_rfl) (fun _ _ _ h=>h) (Or.inr ⟨by (go_simp <;> (intro h;cases h)),rfl⟩) ?_
     refine wpAny_take (i:=7) (v:=undef) rfl (by kernel_rfl) (by kernel_rfl) (by kernel_rfl) (fun _ _ _ h=>h) (Or.inr ⟨by (go_simp <;> (intro h;cases h)),rfl⟩) ?_
     refine wpAny_take (i:=8) (v:=undef) rfl (by kernel_rfl) (by kernel_rfl) (by kernel_rfl) (fun _ _ _ h=>h) (Or.inr ⟨by (go_simp <;> (intro h;cases h)),rfl⟩) ?_
     refine wpAny_take (i:=9) (v:=undef) rfl (by kernel_rfl) (by kernel_rfl) (by kernel_rfl) (fun _ _ _ h=>h) (Or.inr ⟨by (go_simp <;> (intro h;cases h)),rfl⟩) ?_
     refine wpAny_take (i:=10) (v:=undef) rfl (by kernel_rfl) (by kernel_rfl) (by kernel_rfl) (fun _ _ _ h=>h) (Or.inr ⟨by (go_simp <;> (intro h;cases h)),rfl⟩) ?_
     refine wpAny_take (i:=11) (v:=undef) rfl (by kernel_rfl) (by kernel_rfl) (by kernel_rfl) (fun _ _ _ h=>h) (Or.inr ⟨by (go_simp <;> (intro h;cases h)),rfl⟩) ?_
     refine wpAny_take (i:=12) (v:=undef) rfl (by kernel_rfl) (by kernel_rfl) (by kernel_rfl) (fun _ _ _ h=>h) (Or.inr ⟨by (go_simp <;> (intro h;cases h)),rfl⟩) ?_
     refine wpAny_take (i:=13) (v:=undef) rfl (by kernel_rfl) (by kernel_rfl) (by kernel_rfl) (fun _ _ _ h=>h) (Or.inr ⟨by (go_simp <;> (intro h;cases h)),rfl⟩) ?_
     refine wpAny_take (i:=14) (v:=undef) rfl (by kernel_rfl) (by kernel_rfl) (by kernel_rfl) (fun _ _ _ h=>h) (Or.inr ⟨by (go_simp <;> (intro h;cases h)),rfl⟩) ?_
     refine wpAny_take (i:=15) (v:=undef) rfl (by kernel_rfl) (by kernel_rfl) (by kernel_rfl) (fun _ _ _ h=>h) (Or.inr ⟨by (go_simp <;> (intro h;cases h)),rfl⟩) ?_
     refine wpAny_take (i:=16) (v:=undef) rfl (by kernel_rfl) (by kernel_rfl) (by kernel_rfl) (fun _ _ _ h=>h) (Or.inr ⟨by (go_simp <;> (intro h;cases h)),rfl⟩) ?_
     refine wpAny_take (i:=17) (v:=?v15) rfl (by kernel_rfl) (by kernel_rfl) (by kernel_rfl) (fun _ _ _ h=>h) (Or.inl ⟨by rfl,?hy15⟩) ?rs15
     case hy15=>(intro w;go_simp;try with_reducible rfl)
     refine wpAny_take (i:=18) (v:=?v16) rfl (by kernel_rfl) (by kernel_rfl) (by kernel_rfl) (fun _ _ _ h=>h) (Or.inl ⟨by rfl,?hy16⟩) ?rs16
     case hy16=>(intro w;go_simp;try with_reducible rfl)
     refine wpAny_done (by kernel_rfl) ?_ _
     clear g0 g1 g2 g3 g4 g5 g6 g7 h0 h1 h2 h3 h4 h5 h6 h7
     have hrc:=HA3.out.fill.cell hlt
     have hrf:=HA3.out.fill.frozen c
     have hrz:w.heap.size+3 < w3.heap.size:=HA3.out.fill.low.2
     go_wp2
     go_roundw
     case rel=>exact ⟨c+1,by omega,by go_num,rl_put HA3.out hlt (by rw [HFC.out];try simp)⟩
     case measure=>simp [intOf];omega
    ·go_simp
     refine hK _ _ ?_
     clear hK K
     refine wpAny_ready (rs:=[1]) (by kernel_rfl) (by simp) ?_
     refine AllReady.cons rfl (fun K hK=>?_) AllReady.nil
     clear g0 g1 g2 g3 g4 g5 g6 g7
     go_simp
     go_wp2_with (go_at_call 58;refine (HCP.out _ HA1.out).mono ?_;rintro e w2 ⟨rfl,hb⟩;have HA2:=Lib.hid (HA1.out.step hb);clear hb;obtain ⟨g0,g1,g2,g3,g4,g5,g6,g7⟩:=HA2.out.st.two)
     refine wpAny_ready (rs:=[3]) (by kernel_rfl) (by simp) ?_
     refine AllReady.cons rfl (fun K hK=>?_) AllReady.nil
     clear g0 g1 g2 g3 g4 g5 g6 g7
     go_simp
     go_wp2_with (go_at_call 58;refine (HCQ.out _ HA2.out).mono ?_;rintro e w3 ⟨rfl,hb⟩;have HA3:=Lib.hid (HA2.out.step hb);clear hb;obtain ⟨g0,g1,g2,g3,g4,g5,g6,g7⟩:=HA3.out.st.two)
     refine wpAny_take (i:=4) (v:=?v17) rfl (by kernel_rfl) (by kernel_rfl) (by kernel_rfl) (fun _ _ _ h=>h) (Or.inl ⟨by rfl,?hy17⟩) ?rs17
     case hy17=>(intro w;go_simp;try with_reducible rfl)
     refine wpAny_take (i:=5) (v:=?v18) rfl (by kernel_rfl) (by kernel_rfl) (by kernel_rfl) (fun _ _ _ h=>h) (Or.inl ⟨by rfl,?hy18⟩) ?rs18
     case hy18=>(intro w;go_simp;try with_reducible rfl)
     refine wpAny_take (i:=6) (v:=undef) rfl (by kernel_rfl) (by kernel_rfl) (by kernel_rfl) (fun _ _ _ h=>h) (Or.inr ⟨by (go_simp <;> (intro h;cases h)),rfl⟩) ?_
     refine wpAny_take (i:=7) (v:=undef) rfl (by kernel_rfl) (by kernel_rfl) (by kernel_rfl) (fun _ _ _ h=>h) (Or.inr ⟨by (go_simp <;> (intro h;cases h)),rfl⟩) ?_
     refine wpAny_take (i:=8) (v:=undef) rfl (by kernel_rfl) (by kernel_rfl) (by kernel_rfl) (fun _ _ _ h=>h) (Or.inr ⟨by (go_simp <;> (intro h;cases h)),rfl⟩) ?_
     refine wpAny_take (i:=9) (v:=undef) rfl (by kernel_rfl) (by kernel_rfl) (by kernel_rfl) (fun _ _ _ h=>h) (Or.inr ⟨by (go_simp <;> (intro h;cases h)),rfl⟩) ?_
     refine wpAny_take (i:=10) (v:=undef) rfl (by kernel_rfl) (by kernel_rfl) (by kernel_rfl) (fun _ _ _ h=>h) (Or.inr ⟨by (go_simp <;> (intro h;cases h)),rfl⟩) ?_
     refine wpAny_take (i:=11) (v:=undef) rfl (by kernel_rfl) (by kernel_rfl) (by kernel_rfl) (fun _ _ _ h=>h) (Or.inr ⟨by (go_simp <;> (intro h;cases h)),rfl⟩) ?_
     refine wpAny_take (i:=12) (v:=undef) rfl (by kernel_rfl) (by kernel_rfl) (by kernel_rfl) (fun _ _ _ h=>h) (Or.inr ⟨by (go_simp <;> (intro h;cases h)),rfl⟩) ?_
     refine wpAny_take (i:=13) (v:=undef) rfl (by kernel_rfl) (by kernel_rfl) (by kernel_rfl) (fun _ _ _ h=>h) (Or.inr ⟨by (go_simp <;> (intro h;cases h)),rfl⟩) ?_
     refine wpAny_take (i:=14) (v:=undef) rfl (by kernel_rfl) (by kernel_rfl) (by kernel_rfl) (fun _ _ _ h=>h) (Or.inr ⟨by (go_simp <;> (intro h;cases h)),rfl⟩) ?_
     refine wpAny_take (i:=15) (v:=undef) rfl (by kernel_rfl) (by kernel_rfl) (by kernel_rfl) (fun _ _ _ h=>h) (Or.inr ⟨by (go_simp <;> (intro h;cases h)),rfl⟩) ?_
     refine wpAny_take (i:=16) (v:=undef) rfl (by kernel_rfl) (by kernel_rfl) (by kernel_rfl) (fun _ _ _ h=>h) (Or.inr ⟨by (go_simp <;> (intro h;cases h)),rfl⟩) ?_
     refine wpAny_take (i:=17) (v:=?v19) rfl (by kernel_rfl) (by kernel_rfl) (by kernel_rfl) (fun _ _ _ h=>h) (Or.inl ⟨by rfl,?hy19⟩) ?rs19
     case hy19=>(intro w;go_simp;try with_reducible rfl)
     refine wpAny_take (i:=18) (v:=?v20) rfl (by kernel_rfl) (by kernel_rfl) (by kernel_rfl) (fun _ _ _ h=>h) (Or.inl ⟨by rfl,?hy20⟩) ?rs20
     case hy20=>(intro w;go_simp;try with_reducible rfl)
     refine wpAny_done (by kernel_rfl) ?_ _
     clear g0 g1 g2 g3 g4 g5 g6 g7 h0 h1 h2 h3 h4 h5 h6 h7
     have hrc:=HA3.out.fill.cell hlt
     have hrf:=HA3.out.fill.frozen c
     have hrz:w.heap.size+3 < w3.heap.size:=HA3.out.fill.low.2
     go_wp2
     go_roundw
     case rel=>exact ⟨c+1,by omega,by go_num,rl_put HA3.out hlt (by rw [HFC.out];try simp)⟩
     case measure=>simp [intOf];omega
   ·go_simp
    refine hK _ _ ?_
    clear hK K
    refine wpAny_ready (rs:=[0]) (by kernel_rfl) (by simp) ?_
    refine AllReady.cons rfl (fun K hK=>?_) AllReady.nil
    go_simp
    refine hK _ _ ?_
    clear hK K
    refine wpAny_ready (rs:=[1]) (by kernel_rfl) (by simp) ?_
    refine AllReady.cons rfl (fun K hK=>?_) AllReady.nil
    clear g0 g1 g2 g3 g4 g5 g6 g7
    go_simp
    go_wp2_with (go_at_call 58;refine (HCP.out _ HA1.out).mono ?_;rintro e w2 ⟨rfl,hb⟩;have HA2:=Lib.hid (HA1.out.step hb);clear hb;obtain ⟨g0,g1,g2,g3,g4,g5,g6,g7⟩:=HA2.out.st.two)
    refine wpAny_ready (rs:=[3]) (by kernel_rfl) (by simp) ?_
    refine AllReady.cons rfl (fun K hK=>?_) AllReady.nil
    clear g0 g1 g2 g3 g4 g5 g6 g7
    go_simp
    go_wp2_with (go_at_call 58;refine (HCQ.out _ HA2.out).mono ?_;rintro e w3 ⟨rfl,hb⟩;have HA3:=Lib.hid (HA2.out.step hb);clear hb;obtain ⟨g0,g1,g2,g3,g4,g5,g6,g7⟩:=HA3.out.st.two)
    refine wpAny_take (i:=4) (v:=?v21) rfl (by kernel_rfl) (by kernel_rfl) (by kernel_rfl) (fun _ _ _ h=>h) (Or.inl ⟨by rfl,?hy21⟩) ?rs21
    case hy21=>(intro w;go_simp;try with_reducible rfl)
    refine wpAny_take (i:=5) (v:=?v22) rfl (by kernel_rfl) (by kernel_rfl) (by kernel_rfl) (fun _ _ _ h=>h) (Or.inl ⟨by rfl,?hy22⟩) ?rs22
    case hy22=>(intro w;go_simp;try with_reducible rfl)
    refine wpAny_take (i:=6) (v:=undef) rfl (by kernel_rfl) (by kernel_rfl) (by kernel_rfl) (fun _ _ _ h=>h) (Or.inr ⟨by (go_simp <;> (intro h;cases h)),rfl⟩) ?_
    refine wpAny_take (i:=7) (v:=undef) rfl (by kernel_rfl) (by kernel_rfl) (by kernel_rfl) (fun _ _ _ h=>h) (Or.inr ⟨by (go_simp <;> (intro h;cases h)),rfl⟩) ?_
    refine wpAny_take (i:=8) (v:=undef) rfl (by kernel_rfl) (by kernel_rfl) (by kernel_rfl) (fun _ _ _ h=>h) (Or.inr ⟨by (go_simp <;> (intro h;cases h)),rfl⟩) ?_
    refine wpAny_take (i:=9) (v:=undef) rfl (by kernel_rfl) (by kernel_rfl) (by kernel_rfl) (fun _ _ _ h=>h) (Or.inr ⟨by (go_simp <;> (intro h;cases h)),rfl⟩) ?_
    refine wpAny_take (i:=10) (v:=undef) rfl (by kernel_rfl) (by kernel_rfl) (by kernel_rfl) (fun _ _ _ h=>h) (Or.inr ⟨by (go_simp <;> (intro h;cases h)),rfl⟩) ?_
    refine wpAny_take (i:=11) (v:=undef) rfl (by kernel_rfl) (by kernel_rfl) (by kernel_rfl) (fun _ _ _ h=>h) (Or.inr ⟨by (go_simp <;> (intro h;cases h)),rfl⟩) ?_
    refine wpAny_take (i:=12) (v:=undef) rfl (by kernel_rfl) (by kernel_rfl) (by kernel_rfl) (fun _ _ _ h=>h) (Or.inr ⟨by (go_simp <;> (intro h;cases h)),rfl⟩) ?_
    refine wpAny_take (i:=13) (v:=undef) rfl (by kernel_rfl) (by kernel_rfl) (by kernel_rfl) (fun _ _ _ h=>h) (Or.inr ⟨by (go_simp <;> (intro h;cases h)),rfl⟩) ?_
    refine wpAny_take (i:=14) (v:=undef) rfl (by kernel_rfl) (by kernel_rfl) (by kernel_rfl) (fun _ _ _ h=>h) (Or.inr ⟨by (go_simp <;> (intro h;cases h)),rfl⟩) ?_
    refine wpAny_take (i:=15) (v:=undef) rfl (by kernel_rfl) (by kernel_rfl) (by kernel_rfl) (fun _ _ _ h=>h) (Or.inr ⟨by (go_simp <;> (intro h;cases h)),rfl⟩) ?_
    refine wpAny_take (i:=16) (v:=undef) rfl (by kernel_rfl) (by kernel_rfl) (by kernel_rfl) (fun _ _ _ h=>h) (Or.inr ⟨by (go_simp <;> (intro h;cases h)),rfl⟩) ?_
    refine wpAny_take (i:=17) (v:=?v23) rfl (by kernel_rfl) (by kernel_rfl) (by kernel_rfl) (fun _ _ _ h=>h) (Or.inl ⟨by rfl,?hy23⟩) ?rs23
    case hy23=>(intro w;go_simp;try with_reducible rfl)
    refine wpAny_take (i:=18) (v:=?v24) rfl (by kernel_rfl) (by kernel_rfl) (by kernel_rfl) (fun _ _ _ h=>h) (Or.inl ⟨by rfl,?hy24⟩) ?rs24
    case hy24=>(intro w;go_simp;try with_reducible rfl)
    refine wpAny_done (by kernel_rfl) ?_ _
    clear g0 g1 g2 g3 g4 g5 g6 g7 h0 h1 h2 h3 h4 h5 h6 h7
    have hrc:=HA3.out.fill.cell hlt
    have hrf:=HA3.out.fill.frozen c
    have hrz:w.heap.size+3 < w3.heap.size:=HA3.out.fill.low.2
    go_wp2
    go_roundw
    case rel=>exact ⟨c+1,by omega,by go_num,rl_put HA3.out hlt (by rw [HFC.out];try simp)⟩
    case measure=>simp [intOf];omega
  ·obtain rfl:c=N:=by omega
   have HPK:=Lib.hid (pack_any (w.heap.size+3) 0 c c R (by omega) (Nat.le_refl _) wr (fun i hi=>by
    rw [Nat.zero_add,HAR.out.fill.done i hi (Nat.le_refl _),HFF.out]))
   go_wp2_with fail
   refine HPK.out.mono ?_
   rintro e w5 ⟨gg,rfl,hr5,hb5⟩
   have HS5:=Lib.hid (HAR.out.st.step hb5)
   have HGW:Hid (wr.heap.size<=gg):=hr5.low.1
   have HGS:Hid (w.heap.size+3<=wr.heap.size):=HAR.out.st.sz
   have HR5:=Lib.hid hr5
   clear hb5 hr5
   go_wp2_with fail
   refine (vbits_any _ _ _ _ _).mono ?_
   rintro e w6 ⟨rfl,hb6⟩
   have HS6:=Lib.hid (HS5.out.step hb6)
   have HR6:=Lib.hid (HR5.out.below hb6)
   clear hb6
   have HRE:=Lib.hid (set8_block HS6.out.res (.int .i64 1) (.slice (some ⟨gg,0,none⟩) ((c+63) / 64) ((c+63) / 64)) (.int .i64 (c:Int)) vnil vnil vnil vnil vnil)
   have HBE:=Lib.hid (below_set8 HS6.out.bel (Nat.le_add_right _ 2) (.int .i64 1) (.slice (some ⟨gg,0,none⟩) ((c+63) / 64) ((c+63) / 64)) (.int .i64 (c:Int)) vnil vnil vnil vnil vnil)
   have HKE:Hid (Keeps H (set8 w6 (w.heap.size+2) (.int .i64 1) (.slice (some ⟨gg,0,none⟩) ((c+63) / 64) ((c+63) / 64)) (.int .i64 (c:Int)) vnil vnil vnil vnil vnil) (NumV (vecW 1 (some ⟨gg,0,none⟩,(c+63) / 64,(c+63) / 64) (c:Int) (none,0,0) (none,0,0) (none,0,0) (none,0,0) (none,0,0)) 1 c (fun c=>flagF (R c)))):=by
    have h1:Keeps (fun j=>H j\/j=w.heap.size+2) w6 (fun W=>Reads1 W (.slice (some ⟨gg,0,none⟩) ((c+63) / 64) ((c+63) / 64)) ((List.range ((c+63) / 64)).map fun j => .int .u64 (packW R c j:Nat))) :=
     Own1.keepsH HR6.out (fun j e=>by
      have h1:=HGW.out
      have h2:=HGS.out
      rcases e with e | e
      ·have:=HH.out j e;omega
      ·omega)
    refine ((h1.imp fun W' h=>numV_bits (by omega) ⟨_,rfl,⟨gg,0,_,rfl,fun j hj=>?_⟩⟩).set8 (.inr rfl) _ _ _ _ _ _ _ _).sub fun _ _ e => .inl e
    exact reads_cell h j hj
   clear HR5 HR6
   obtain ⟨⟨h0,h1,h2,h3,h4,h5,h6,h7⟩,hz⟩:=boxed_of HS6.out.res
   go_wp2
   refine bodyPost_ret (v := .tuple #[vecW 1 (some ⟨gg,0,none⟩,(c+63) / 64,(c+63) / 64) (c:Int) (none,0,0) (none,0,0) (none,0,0) (none,0,0) (none,0,0),.int .i64 0]) (ret_vec2 (fn:=Tryz.f233) (p:=8) (u:=9) rfl _ _ (w.heap.size+2) (by rfl) HRE.out) rfl ?_
   exact ⟨1,(some ⟨gg,0,none⟩,(c+63) / 64,(c+63) / 64),(c:Int),(none,0,0),(none,0,0),(none,0,0),(none,0,0),(none,0,0),rfl,HKE.out,HBE.out⟩
theorem rchars_bad (f:Int) (h1:f≠13) (h2:f≠16) (p q:V8) (N:Nat) (w:World) :
  Calls Tryz.prog 233 #[.int .i64 f,.int .i64 (N:Int),p.v,q.v] w (ZeroE w 24):=by
 have n13:(f==13)=false:=by simpa using h1
 have n16:(f==16)=false:=by simpa using h2
 have HS0:=Lib.hid (St2.new w p q)
 unfold ZeroE
 clear h1 h2
 go_enter Tryz.func233,Tryz.ntmps233
 obtain ⟨⟨h0,h1,h2,h3,h4,h5,h6,h7⟩,hz⟩:=boxed_of HS0.out.res
 go_wp2
 refine bodyPost_ret (v := .tuple #[vecV 0 vnil 0 vnil vnil vnil vnil vnil,.int .i64 24]) ?_ rfl ⟨rfl,HS0.out.bel⟩
 exact ret_vec2 (fn:=Tryz.f233) (p:=8) (u:=9) rfl _ _ (w.heap.size+2) (by rfl) HS0.out.res
end Go.Proofs.YtiahegjdkejjpaaGreatDoor
