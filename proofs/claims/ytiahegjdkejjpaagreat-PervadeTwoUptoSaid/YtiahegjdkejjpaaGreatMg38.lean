/- Merged texts. The walk of the law PervadeTwo. Conditions: as the theorem says. Plain arrays that came in: what their reading says of memory. Conditions: as each theorem says. -/
import Derived.Test.YtiahegjdkejjpaaGreatMg37
import Derived.Deep.RegionWith
import Derived.Test.YtiahegjdkejjpaaGreatRows
import Derived.Test.YtiahegjdkejjpaaGreatMg11
import Derived.ProofKit
import Derived.Deep.Slices
import Derived.Deep.Fields
import Derived.ChangeSame
namespace Go.Proofs.YtiahegjdkejjpaaGreat
open Go Go.RowKit Go.Proofs Fl
theorem BelT.self' {w1 W : World} (g : BelT w1 W) : BelT w1 W := g
theorem BelT.size {w1 W : World} (g : BelT w1 W) : w1.heap.size ≤ W.heap.size := Below.size g
theorem fresh_lo {wr W w1 : World} {t : RP} {h x : Sl} {f : Int} (_ : PvK (Fresh wr W) w1 t h x f) : ∀ b, Fresh wr W b → wr.heap.size ≤ b := fun _ e => e.1
theorem fresh_old {K1 : Nat → Prop} {w1 W w2 : World} {t : RP} {h x : Sl} {f : Int} (_ : PvK (fun b => K1 b ∨ Fresh w1 W b) w2 t h x f) : ∀ b, (K1 b ∨ Fresh w1 W b) → b < w1.heap.size → K1 b := fun b e h => by
 rcases e with e | e
 ·exact e
 ·have := e.1; omega
theorem pv_arg0 {w wr : World} {t : RP} {h x : Sl} {f : Int} (g : PV (fun _ => False) w t h x f) (hw : w.heap.size ≤ wr.heap.size) (K : Nat → Prop) (hK : ∀ b, K b → wr.heap.size ≤ b) (W : World) (hb : Below w.heap.size w W) : PV K W t h x f :=
 PV.lat (Lat.below hb) (PV.sub (fun b hb e => by have := hK b e; omega) g)
set_option maxRecDepth 100000 in
set_option maxHeartbeats 4000000 in
theorem pTwo_any (z : Int) (t1 t2 : RP) (h1 x1 h2 x2 : Sl) (f1 f2 : Int) (w : World) (i1 : FitP t1) (i2 : FitP t2) (m1 : cntP t1 ≤ 1048576) (m2 : cntP t2 ≤ 1048576) (r1 : PV (fun _ => False) w t1 h1 x1 f1) (r2 : PV (fun _ => False) w t2 h2 x2 f2) :
  Calls Tryz.prog 3 #[.int .i64 z, plV h1 x1 f1, plV h2 x2 f2] w fun e w' => e = .returned (.bool true) ∧ Below w.heap.size w w' := by
 have HFA := Lib.hid (fun W (hs : P2 w W h1 x1 f1 h2 x2 f2) => fine24_any t1 h1 x1 f1 W i1 m1 (r1.step hs.bel))
 have HFB := Lib.hid (fun W (hs : P2 w W h1 x1 f1 h2 x2 f2) => fine24_any t2 h2 x2 f2 W i2 m2 (r2.step hs.bel))
 have HCA := Lib.hid (fun W (hs : P2 w W h1 x1 f1 h2 x2 f2) => cnt_walk 3000 (cntP t1) t1 h1 x1 f1 W (Nat.le_refl _) m1 (r1.step hs.bel))
 have HCB := Lib.hid (fun W (hs : P2 w W h1 x1 f1 h2 x2 f2) => cnt_walk 3000 (cntP t2) t2 h2 x2 f2 W (Nat.le_refl _) m2 (r2.step hs.bel))
 have HR1 := Lib.hid r1
 have HR2 := Lib.hid r2
 have HS0 := Lib.hid (P2.new w h1 x1 f1 h2 x2 f2)
 unfold FineR at HFA HFB
 unfold CntR at HCA HCB
 clear i1 i2 m1 m2 r1 r2
 go_enter Tryz.func3, Tryz.ntmps3
 go_wp2_with fail
 obtain ⟨w0, hw0⟩ : ∃ w0, w0 = (w.alloc (plO h1 x1 f1)).alloc (plO h2 x2 f2) := ⟨_, rfl⟩
 rw [← hw0] at HS0
 have HW0 := Lib.hid hw0
 clear hw0
 rw [← HW0.out]
 go_cut [26] from 11 (fun v wx => TsMid t1 t2 w h1 x1 f1 h2 x2 f2 v wx)
 case first =>
  refine wp_region_any (by kernel_rfl) ?_
  change wpAny _ _ _ _ _ _ _ (World.drew _)
  have hst0 := HS0.out.dr
  generalize w0.drew = w16 at hst0 ⊢
  obtain ⟨⟨p0, p1, p2⟩, ⟨q0, q1, q2⟩⟩ := (p2_s hst0).1
  refine wpAny_ready (rs := [0]) (by kernel_rfl) (by simp) ?_
  refine AllReady.cons rfl (fun K hK => ?_) AllReady.nil
  go_simp
  refine hK _ _ ?_
  clear hK K
  refine wpAny_ready (rs := [1]) (by kernel_rfl) (by simp) ?_
  refine AllReady.cons rfl (fun K hK => ?_) AllReady.nil
  go_simp
  go_wp2_with (go_at_call 6; refine (HFA.out _ hst0).mono ?_; rintro e w1 ⟨b1, rfl, hg1, hb1⟩; have hst1 : P2 w w1 h1 x1 f1 h2 x2 f2 := P2.step hst0 hb1; clear hb1)
  clear p0 p1 p2 q0 q1 q2
  obtain ⟨⟨p0, p1, p2⟩, ⟨q0, q1, q2⟩⟩ := (p2_s hst1).1
  cases b1
  ·refine wpAny_take (i := 2) (v := ?av1) rfl (by kernel_rfl) (by kernel_rfl) (by kernel_rfl) (fun _ _ _ h => h) (Or.inl ⟨by rfl, ?ay1⟩) ?as1
   case ay1 => (intro w; go_simp; try with_reducible rfl)
   refine wpAny_take (i := 3) (v := ?av2) rfl (by kernel_rfl) (by kernel_rfl) (by kernel_rfl) (fun _ _ _ h => h) (Or.inl ⟨by rfl, ?ay2⟩) ?as2
   case ay2 => (intro w; go_simp; try with_reducible rfl)
   refine wpAny_take (i := 4) (v := undef) rfl (by kernel_rfl) (by kernel_rfl) (by kernel_rfl) (fun _ _ _ h => h) (Or.inr ⟨by (go_simp <;> (intro h; cases h)), rfl⟩) ?_
   refine wpAny_take (i := 5) (v := undef) rfl (by kernel_rfl) (by kernel_rfl) (by kernel_rfl) (fun _ _ _ h => h) (Or.inr ⟨by (go_simp <;> (intro h; cases h)), rfl⟩) ?_
   refine wpAny_take (i := 6) (v := undef) rfl (by kernel_rfl) (by kernel_rfl) (by kernel_rfl) (fun _ _ _ h => h) (Or.inr ⟨by (go_simp <;> (intro h; cases h)), rfl⟩) ?_
   refine wpAny_take (i := 7) (v := ?av3) rfl (by kernel_rfl) (by kernel_rfl) (by kernel_rfl) (fun _ _ _ h => h) (Or.inl ⟨by rfl, ?ay3⟩) ?as3
   case ay3 => (intro w; go_simp; try with_reducible rfl)
   refine wpAny_take (i := 8) (v := ?av4) rfl (by kernel_rfl) (by kernel_rfl) (by kernel_rfl) (fun _ _ _ h => h) (Or.inl ⟨by rfl, ?ay4⟩) ?as4
   case ay4 => (intro w; go_simp; try with_reducible rfl)
   refine wpAny_take (i := 9) (v := undef) rfl (by kernel_rfl) (by kernel_rfl) (by kernel_rfl) (fun _ _ _ h => h) (Or.inr ⟨by (go_simp <;> (intro h; cases h)), rfl⟩) ?_
   refine wpAny_take (i := 10) (v := undef) rfl (by kernel_rfl) (by kernel_rfl) (by kernel_rfl) (fun _ _ _ h => h) (Or.inr ⟨by (go_simp <;> (intro h; cases h)), rfl⟩) ?_
   refine wpAny_take (i := 11) (v := undef) rfl (by kernel_rfl) (by kernel_rfl) (by kernel_rfl) (fun _ _ _ h => h) (Or.inr ⟨by (go_simp <;> (intro h; cases h)), rfl⟩) ?_
   refine wpAny_take (i := 12) (v := undef) rfl (by kernel_rfl) (by kernel_rfl) (by kernel_rfl) (fun _ _ _ h => h) (Or.inr ⟨by (go_simp <;> (intro h; cases h)), rfl⟩) ?_
   refine wpAny_take (i := 13) (v := undef) rfl (by kernel_rfl) (by kernel_rfl) (by kernel_rfl) (fun _ _ _ h => h) (Or.inr ⟨by (go_simp <;> (intro h; cases h)), rfl⟩) ?_
   refine wpAny_take (i := 14) (v := undef) rfl (by kernel_rfl) (by kernel_rfl) (by kernel_rfl) (fun _ _ _ h => h) (Or.inr ⟨by (go_simp <;> (intro h; cases h)), rfl⟩) ?_
   refine wpAny_take (i := 15) (v := ?av5) rfl (by kernel_rfl) (by kernel_rfl) (by kernel_rfl) (fun _ _ _ h => h) (Or.inl ⟨by rfl, ?ay5⟩) ?as5
   case ay5 => (intro w; go_simp; try with_reducible rfl)
   refine wpAny_done (by kernel_rfl) ?_ _
   go_wp2
   go_simp
   go_meet
   exact tsMid_no hst1
  ·refine wpAny_take (i := 2) (v := ?av6) rfl (by kernel_rfl) (by kernel_rfl) (by kernel_rfl) (fun _ _ _ h => h) (Or.inl ⟨by rfl, ?ay6⟩) ?as6
   case ay6 => (intro w; go_simp; try with_reducible rfl)
   refine wpAny_take (i := 3) (v := ?av7) rfl (by kernel_rfl) (by kernel_rfl) (by kernel_rfl) (fun _ _ _ h => h) (Or.inl ⟨by rfl, ?ay7⟩) ?as7
   case ay7 => (intro w; go_simp; try with_reducible rfl)
   refine wpAny_ready (rs := [4]) (by kernel_rfl) (by simp) ?_
   refine AllReady.cons rfl (fun K hK => ?_) AllReady.nil
   go_simp
   refine hK _ _ ?_
   clear hK K
   refine wpAny_ready (rs := [5]) (by kernel_rfl) (by simp) ?_
   refine AllReady.cons rfl (fun K hK => ?_) AllReady.nil
   go_simp
   go_wp2_with (go_at_call 6; refine (HFB.out _ hst1).mono ?_; rintro e w2 ⟨b2, rfl, hg2, hb2⟩; have hst2 : P2 w w2 h1 x1 f1 h2 x2 f2 := P2.step hst1 hb2; clear hb2)
   clear p0 p1 p2 q0 q1 q2
   obtain ⟨⟨p0, p1, p2⟩, ⟨q0, q1, q2⟩⟩ := (p2_s hst2).1
   cases b2
   ·refine wpAny_take (i := 6) (v := ?av8) rfl (by kernel_rfl) (by kernel_rfl) (by kernel_rfl) (fun _ _ _ h => h) (Or.inl ⟨by go_simp, ?ay8⟩) ?as8
    case ay8 => (intro w; go_simp; try with_reducible rfl)
    refine wpAny_take (i := 7) (v := ?av9) rfl (by kernel_rfl) (by kernel_rfl) (by kernel_rfl) (fun _ _ _ h => h) (Or.inl ⟨by rfl, ?ay9⟩) ?as9
    case ay9 => (intro w; go_simp; try with_reducible rfl)
    refine wpAny_take (i := 8) (v := ?av10) rfl (by kernel_rfl) (by kernel_rfl) (by kernel_rfl) (fun _ _ _ h => h) (Or.inl ⟨by rfl, ?ay10⟩) ?as10
    case ay10 => (intro w; go_simp; try with_reducible rfl)
    refine wpAny_take (i := 9) (v := undef) rfl (by kernel_rfl) (by kernel_rfl) (by kernel_rfl) (fun _ _ _ h => h) (Or.inr ⟨by (go_simp <;> (intro h; cases h)), rfl⟩) ?_
    refine wpAny_take (i := 10) (v := undef) rfl (by kernel_rfl) (by kernel_rfl) (by kernel_rfl) (fun _ _ _ h => h) (Or.inr ⟨by (go_simp <;> (intro h; cases h)), rfl⟩) ?_
    refine wpAny_take (i := 11) (v := undef) rfl (by kernel_rfl) (by kernel_rfl) (by kernel_rfl) (fun _ _ _ h => h) (Or.inr ⟨by (go_simp <;> (intro h; cases h)), rfl⟩) ?_
    refine wpAny_take (i := 12) (v := undef) rfl (by kernel_rfl) (by kernel_rfl) (by kernel_rfl) (fun _ _ _ h => h) (Or.inr ⟨by (go_simp <;> (intro h; cases h)), rfl⟩) ?_
    refine wpAny_take (i := 13) (v := undef) rfl (by kernel_rfl) (by kernel_rfl) (by kernel_rfl) (fun _ _ _ h => h) (Or.inr ⟨by (go_simp <;> (intro h; cases h)), rfl⟩) ?_
    refine wpAny_take (i := 14) (v := undef) rfl (by kernel_rfl) (by kernel_rfl) (by kernel_rfl) (fun _ _ _ h => h) (Or.inr ⟨by (go_simp <;> (intro h; cases h)), rfl⟩) ?_
    refine wpAny_take (i := 15) (v := ?av11) rfl (by kernel_rfl) (by kernel_rfl) (by kernel_rfl) (fun _ _ _ h => h) (Or.inl ⟨by rfl, ?ay11⟩) ?as11
    case ay11 => (intro w; go_simp; try with_reducible rfl)
    refine wpAny_done (by kernel_rfl) ?_ _
    go_wp2
    go_simp
    go_meet
    exact tsMid_no hst2
   ·refine wpAny_take (i := 6) (v := ?av18) rfl (by kernel_rfl) (by kernel_rfl) (by kernel_rfl) (fun _ _ _ h => h) (Or.inl ⟨by go_simp, ?ay18⟩) ?as18
    case ay18 => (intro w; go_simp; try with_reducible rfl)
    refine wpAny_take (i := 7) (v := ?av19) rfl (by kernel_rfl) (by kernel_rfl) (by kernel_rfl) (fun _ _ _ h => h) (Or.inl ⟨by rfl, ?ay19⟩) ?as19
    case ay19 => (intro w; go_simp; try with_reducible rfl)
    refine wpAny_take (i := 8) (v := ?av20) rfl (by kernel_rfl) (by kernel_rfl) (by kernel_rfl) (fun _ _ _ h => h) (Or.inl ⟨by rfl, ?ay20⟩) ?as20
    case ay20 => (intro w; go_simp; try with_reducible rfl)
    refine wpAny_ready (rs := [9, 11]) (by kernel_rfl) (by simp) ?_
    refine AllReady.cons rfl (fun K hK => ?_) (AllReady.cons rfl (fun K hK => ?_) AllReady.nil)
    ·go_simp
     refine hK _ _ ?_
     clear hK K
     refine wpAny_ready (rs := [10, 11]) (by kernel_rfl) (by simp) ?_
     refine AllReady.cons rfl (fun K hK => ?_) (AllReady.cons rfl (fun K hK => ?_) AllReady.nil)
     ·go_simp
      go_wp2_with (go_at_call 7; refine (HCA.out _ hst2).mono ?_; rintro e w3 ⟨⟨n3, rfl, hn3⟩, hb3⟩; have hst3 : P2 w w3 h1 x1 f1 h2 x2 f2 := P2.step hst2 hb3; clear hb3)
      clear p0 p1 p2 q0 q1 q2
      obtain ⟨⟨p0, p1, p2⟩, ⟨q0, q1, q2⟩⟩ := (p2_s hst3).1
      refine wpAny_ready (rs := [11]) (by kernel_rfl) (by simp) ?_
      refine AllReady.cons rfl (fun K hK => ?_) AllReady.nil
      go_simp
      refine hK _ _ ?_
      clear hK K
      refine wpAny_ready (rs := [12]) (by kernel_rfl) (by simp) ?_
      refine AllReady.cons rfl (fun K hK => ?_) AllReady.nil
      go_simp
      go_wp2_with (go_at_call 7; refine (HCB.out _ hst3).mono ?_; rintro e w4 ⟨⟨n4, rfl, hn4⟩, hb4⟩; have hst4 : P2 w w4 h1 x1 f1 h2 x2 f2 := P2.step hst3 hb4; clear hb4)
      clear p0 p1 p2 q0 q1 q2
      obtain ⟨⟨p0, p1, p2⟩, ⟨q0, q1, q2⟩⟩ := (p2_s hst4).1
      refine wpAny_take (i := 13) (v := ?av12) rfl (by kernel_rfl) (by kernel_rfl) (by kernel_rfl) (fun _ _ _ h => h) (Or.inl ⟨by go_simp, ?ay12⟩) ?as12
      case ay12 => (intro w; go_simp; try with_reducible rfl)
      refine wpAny_take (i := 14) (v := ?av13) rfl (by kernel_rfl) (by kernel_rfl) (by kernel_rfl) (fun _ _ _ h => h) (Or.inl ⟨by go_simp, ?ay13⟩) ?as13
      case ay13 => (intro w; go_simp; try with_reducible rfl)
      refine wpAny_take (i := 15) (v := ?av14) rfl (by kernel_rfl) (by kernel_rfl) (by kernel_rfl) (fun _ _ _ h => h) (Or.inl ⟨by rfl, ?ay14⟩) ?as14
      case ay14 => (intro w; go_simp; try with_reducible rfl)
      refine wpAny_done (by kernel_rfl) ?_ _
      go_wp2
      go_simp
      go_meet
      exact tsMid_of (hg1 (by trivial)) (hg2 (by trivial)) hst4
     ·go_simp
      refine hK _ _ ?_
      clear hK K
      refine wpAny_ready (rs := [10]) (by kernel_rfl) (by simp) ?_
      refine AllReady.cons rfl (fun K hK => ?_) AllReady.nil
      go_simp
      go_wp2_with (go_at_call 7; refine (HCA.out _ hst2).mono ?_; rintro e w3 ⟨⟨n3, rfl, hn3⟩, hb3⟩; have hst3 : P2 w w3 h1 x1 f1 h2 x2 f2 := P2.step hst2 hb3; clear hb3)
      clear p0 p1 p2 q0 q1 q2
      obtain ⟨⟨p0, p1, p2⟩, ⟨q0, q1, q2⟩⟩ := (p2_s hst3).1
      refine wpAny_ready (rs := [12]) (by kernel_rfl) (by simp) ?_
      refine AllReady.cons rfl (fun K hK => ?_) AllReady.nil
      go_simp
      go_wp2_with (go_at_call 7; refine (HCB.out _ hst3).mono ?_; rintro e w4 ⟨⟨n4, rfl, hn4⟩, hb4⟩; have hst4 : P2 w w4 h1 x1 f1 h2 x2 f2 := P2.step hst3 hb4; clear hb4)
      clear p0 p1 p2 q0 q1 q2
      obtain ⟨⟨p0, p1, p2⟩, ⟨q0, q1, q2⟩⟩ := (p2_s hst4).1
      refine wpAny_take (i := 13) (v := ?av15) rfl (by kernel_rfl) (by kernel_rfl) (by kernel_rfl) (fun _ _ _ h => h) (Or.inl ⟨by go_simp, ?ay15⟩) ?as15
      case ay15 => (intro w; go_simp; try with_reducible rfl)
      refine wpAny_take (i := 14) (v := ?av16) rfl (by kernel_rfl) (by kernel_rfl) (by kernel_rfl) (fun _ _ _ h => h) (Or.inl ⟨by go_simp, ?ay16⟩) ?as16
      case ay16 => (intro w; go_simp; try with_reducible rfl)
      refine wpAny_take (i := 15) (v := ?av17) rfl (by kernel_rfl) (by kernel_rfl) (by kernel_rfl) (fun _ _ _ h => h) (Or.inl ⟨by rfl, ?ay17⟩) ?as17
      case ay17 => (intro w; go_simp; try with_reducible rfl)
      refine wpAny_done (by kernel_rfl) ?_ _
      go_wp2
      go_simp
      go_meet
      exact tsMid_of (hg1 (by trivial)) (hg2 (by trivial)) hst4
    ·go_simp
     refine hK _ _ ?_
     clear hK K
     refine wpAny_ready (rs := [9]) (by kernel_rfl) (by simp) ?_
     refine AllReady.cons rfl (fun K hK => ?_) AllReady.nil
     go_simp
     refine hK _ _ ?_
     clear hK K
     refine wpAny_ready (rs := [10]) (by kernel_rfl) (by simp) ?_
     refine AllReady.cons rfl (fun K hK => ?_) AllReady.nil
     go_simp
     go_wp2_with (go_at_call 7; refine (HCA.out _ hst2).mono ?_; rintro e w3 ⟨⟨n3, rfl, hn3⟩, hb3⟩; have hst3 : P2 w w3 h1 x1 f1 h2 x2 f2 := P2.step hst2 hb3; clear hb3)
     clear p0 p1 p2 q0 q1 q2
     obtain ⟨⟨p0, p1, p2⟩, ⟨q0, q1, q2⟩⟩ := (p2_s hst3).1
     refine wpAny_ready (rs := [12]) (by kernel_rfl) (by simp) ?_
     refine AllReady.cons rfl (fun K hK => ?_) AllReady.nil
     go_simp
     go_wp2_with (go_at_call 7; refine (HCB.out _ hst3).mono ?_; rintro e w4 ⟨⟨n4, rfl, hn4⟩, hb4⟩; have hst4 : P2 w w4 h1 x1 f1 h2 x2 f2 := P2.step hst3 hb4; clear hb4)
     clear p0 p1 p2 q0 q1 q2
     obtain ⟨⟨p0, p1, p2⟩, ⟨q0, q1, q2⟩⟩ := (p2_s hst4).1
     refine wpAny_take (i := 13) (v := ?av21) rfl (by kernel_rfl) (by kernel_rfl) (by kernel_rfl) (fun _ _ _ h => h) (Or.inl ⟨by go_simp, ?ay21⟩) ?as21
     case ay21 => (intro w; go_simp; try with_reducible rfl)
     refine wpAny_take (i := 14) (v := ?av22) rfl (by kernel_rfl) (by kernel_rfl) (by kernel_rfl) (fun _ _ _ h => h) (Or.inl ⟨by go_simp, ?ay22⟩) ?as22
     case ay22 => (intro w; go_simp; try with_reducible rfl)
     refine wpAny_take (i := 15) (v := ?av23) rfl (by kernel_rfl) (by kernel_rfl) (by kernel_rfl) (fun _ _ _ h => h) (Or.inl ⟨by rfl, ?ay23⟩) ?as23
     case ay23 => (intro w; go_simp; try with_reducible rfl)
     refine wpAny_done (by kernel_rfl) ?_ _
     go_wp2
     go_simp
     go_meet
     exact tsMid_of (hg1 (by trivial)) (hg2 (by trivial)) hst4
 obtain ⟨b, rfl, hok, hst⟩ := hcut
 have HST := Lib.hid hst
 clear hst HS0 HW0 HFA HFB HCA HCB
 cases b with
 | true =>
  go_wp2_with fail
  refine (awake24_any _).mono ?_
  rintro e w1 ⟨rfl, hb⟩
  have HB := Lib.hid (bel_both HST.out.bel hb)
  clear hb
  go_wp2
  go_ret
  exact ⟨rfl, HB.out⟩
 | false =>
  obtain ⟨⟨o1, c1⟩, ⟨o2, c2⟩⟩ := hok rfl
  obtain ⟨wr, hwr⟩ : ∃ wr, wr = wc := ⟨_, rfl⟩
  subst hwr
  have HGD := Lib.hid (fun h => lawE_good (f := z) o1 o2 h)
  have HSM := Lib.hid (lawE_small (f := z) o1 o2 c1 c2)
  have HSV := Lib.hid HST.out
  clear HST
  have HST : Hid (LwS w wr h1 x1 f1 h2 x2 f2 wr) := ⟨HSV.out, Below.refl _ _, HSV.out.sz⟩
  have HO1 : Hid (∀ W, LwS w wr h1 x1 f1 h2 x2 f2 W → Calls Tryz.prog 10 #[plV h1 x1 f1] W (AaR noH W (clP t1))) := fun W hs => lawOf_any noH t1 h1 x1 f1 W (noH_lt W) o1 (by omega) (HR1.out.step hs.p2.bel)
  have HO2 : Hid (∀ W, LwS w wr h1 x1 f1 h2 x2 f2 W → Calls Tryz.prog 10 #[plV h2 x2 f2] W (AaR noH W (clP t2))) := fun W hs => lawOf_any noH t2 h2 x2 f2 W (noH_lt W) o2 (by omega) (HR2.out.step hs.p2.bel)
  have HTW := Lib.hid (fun (W : World) (u1 u2 : Sl) (v1 v2 : V8) (hs : LwS w wr h1 x1 f1 h2 x2 f2 W) => lawTwo_any z o1 o2 c1 c2 (Fresh wr W) W (fun b e => e.2) u1 u2 v1 v2)
  have HTT := Lib.hid (fun (K1 K2 : Nat → Prop) (w1 w2 W : World) (u1 y1 u2 y2 : Sl) (g1 g2 : Int) => lawRTwo_any z o1 o2 c1 c2 K1 K2 w1 w2 W (u1 := u1) (y1 := y1) (u2 := u2) (y2 := y2) (f1 := g1) (f2 := g2))
  have HTYA := Lib.hid (fun (ws W : World) (hw : w.heap.size ≤ ws.heap.size) (hs : LwS w ws h1 x1 f1 h2 x2 f2 W) => lawTidy_any o1 c1 (Fresh ws W) W (fun b e => e.2) (fun W' hb' => pv_arg0 HR1.out hw (Fresh ws W) (fun b e => e.1) W' (bel_both hs.p2.bel hb')))
  have HTYB := Lib.hid (fun (ws : World) (hw : w.heap.size ≤ ws.heap.size) (K1 : Nat → Prop) (w1 W : World) (t : RP) (u y : Sl) (g : Int) (hp : PvK K1 w1 t u y g) (hl : ∀ b, K1 b → ws.heap.size ≤ b) (hz : ws.heap.size ≤ w1.heap.size) (hb : BelT w1 W) (hs : LwS w ws h1 x1 f1 h2 x2 f2 W) => lawTidy_any o2 c2 (fun b => K1 b ∨ Fresh w1 W b) W (fun b e => by
   rcases e with e | e
   ·have := hp.2 b e; have := hb.size; omega
   ·exact e.2) (fun W' hb' => pv_arg0 HR2.out hw (fun b => K1 b ∨ Fresh w1 W b) (fun b e => by
   rcases e with e | e
   ·exact hl b e
   ·have := e.1; omega) W' (bel_both hs.p2.bel hb')))
  generalize lawE z t1 t2 = rr at HTW HTT HGD HSM
  unfold AaR at HO1 HO2
  unfold TwU at HTW
  unfold RtU at HTT
  clear hok o1 o2 c1 c2 HR1 HR2
  go_upto_region 3 with fail
  go_cut [7, 8] from 28 (fun v e wx => LwMid w wr h1 x1 f1 h2 x2 f2 rr v e wx)
  case first =>
   have hs0 := HST.out.dr
   have hs00 := HST.out
   go_region_held3 (fun W => ((W.cell? ⟨w.heap.size, 0, none⟩ = some (.slice h1.1 h1.2.1 h1.2.2) ∧ W.cell? ⟨w.heap.size, 1, none⟩ = some (.slice x1.1 x1.2.1 x1.2.2) ∧ W.cell? ⟨w.heap.size, 2, none⟩ = some (.int .i64 f1)) ∧ (W.cell? ⟨w.heap.size + 1, 0, none⟩ = some (.slice h2.1 h2.2.1 h2.2.2) ∧ W.cell? ⟨w.heap.size + 1, 1, none⟩ = some (.slice x2.1 x2.2.1 x2.2.2) ∧ W.cell? ⟨w.heap.size + 1, 2, none⟩ = some (.int .i64 f2))) ∧ LwS w wr h1 x1 f1 h2 x2 f2 W)
    (first | (with_reducible assumption) | (with_reducible (refine lws_s ?_); repeat (first | (with_reducible assumption) | (with_reducible refine LwS.dr ?_) | (with_reducible refine LwS.put ?_ (by first | assumption | omega | (simp; omega)) _) | (with_reducible refine LwS.al ?_ _))))
    (first
     | (go_at_call 10; (with_reducible refine (HO1.out _ ?_).mono ?_); exact LwS.self (by repeat (first | (with_reducible assumption) | (with_reducible refine LwS.dr ?_) | (with_reducible refine LwS.al ?_ _))); rintro e w1 ⟨ha1, pa1, rfl, hav1, hb1⟩; have hst1 : LwS w wr h1 x1 f1 h2 x2 f2 w1 := LwS.step (by repeat (first | (with_reducible assumption) | (with_reducible refine LwS.dr ?_) | (with_reducible refine LwS.al ?_ _))) hb1; have hat1 : AvAt noH (clP t1) ha1 pa1 w1 := hav1; obtain ⟨hc1, hf1⟩ := bcell2 hb1; have hz1 := hb1.size; have hs1z := hst1.bel.size; (first | (have hsq1 : wr.heap.size < w1.heap.size := Nat.lt_of_lt_of_le (lt_al _ _) hz1) | (have hsq1 : wr.heap.size < w1.heap.size := Nat.lt_of_lt_of_le (lt_dr _ _) hz1) | skip); have HB1 := Lib.hid hb1; clear hb1 hav1)
     | (go_at_call 10; (with_reducible refine (HO2.out _ ?_).mono ?_); exact LwS.self (by repeat (first | (with_reducible assumption) | (with_reducible refine LwS.dr ?_) | (with_reducible refine LwS.al ?_ _))); rintro e w2 ⟨ha2, pa2, rfl, hav2, hb2⟩; have hst2 : LwS w wr h1 x1 f1 h2 x2 f2 w2 := LwS.step (by repeat (first | (with_reducible assumption) | (with_reducible refine LwS.dr ?_) | (with_reducible refine LwS.al ?_ _))) hb2; have hat2 : AvAt noH (clP t2) ha2 pa2 w2 := hav2; have hat1' : AvAt noH (clP t1) ha1 pa1 w2 := AvAt.step (by repeat (first | (with_reducible assumption) | (with_reducible refine AvAt.dr ?_) | (with_reducible refine AvAt.al ?_ _))) hb2; obtain ⟨hc2, hf2⟩ := bcell2 hb2; have hz2 := hb2.size; have hs2z := hst2.bel.size; (first | (have hsq2 : w1.heap.size < w2.heap.size := Nat.lt_of_lt_of_le (lt_al _ _) hz2) | (have hsq2 : w1.heap.size < w2.heap.size := Nat.lt_of_lt_of_le (lt_dr _ _) hz2) | (have hsq2 : w1.heap.size ≤ w2.heap.size := hz2) | skip); (first | (have hsr2 : wr.heap.size < w2.heap.size := Nat.lt_of_lt_of_le hsq1 (Nat.le_of_lt hsq2)) | (have hsr2 : wr.heap.size < w2.heap.size := Nat.lt_of_lt_of_le hsq1 hsq2) | skip); have HB2 := Lib.hid hb2; clear hb2 hav2)
     | (go_at_call 9; (with_reducible refine (HTW.out _ _ _ _ _ ?_ ?_ ?_).mono ?_); exact LwS.self (by repeat (first | (with_reducible assumption) | (with_reducible refine LwS.dr ?_) | (with_reducible refine LwS.al ?_ _))); exact AvAt.self (by repeat (first | (with_reducible assumption) | (with_reducible refine AvAt.dr ?_) | (with_reducible refine AvAt.al ?_ _))); exact AvAt.self (by repeat (first | (with_reducible assumption) | (with_reducible refine AvAt.dr ?_) | (with_reducible refine AvAt.al ?_ _))); rintro e w5 ⟨h5, u5, rfl, hav5, hb5⟩; have hst5 : LwS w wr h1 x1 f1 h2 x2 f2 w5 := LwS.step (by repeat (first | (with_reducible assumption) | (with_reducible refine LwS.dr ?_) | (with_reducible refine LwS.al ?_ _))) hb5; obtain ⟨hc5, hf5⟩ := bcell2 hb5; have hz5 := hb5.size; have hs5z := hst5.bel.size; (first | (have hsq5 : w2.heap.size < w5.heap.size := Nat.lt_of_lt_of_le (lt_al _ _) hz5) | (have hsq5 : w2.heap.size < w5.heap.size := Nat.lt_of_lt_of_le (lt_dr _ _) hz5) | (have hsq5 : w2.heap.size ≤ w5.heap.size := hz5) | skip); (first | (have hsr5 : wr.heap.size < w5.heap.size := Nat.lt_of_lt_of_le hsr2 hsq5) | skip); (first | (have hsr6 : w1.heap.size < w5.heap.size := Nat.lt_of_lt_of_le hsq2 hsq5) | skip); have HB5 := Lib.hid hb5; have HAV5 := Lib.hid hav5; clear hb5 hav5))
   all_goals
    go_wp2
    go_meet
    first
     | (with_reducible exact lwMid_new HAV5.out hst5)
     | (with_reducible refine lwMid_old HAV5.out hst5 (ZB.step ?_ HB5.out) ?_ ?_; all_goals (first | (with_reducible exact Nat.le_refl _) | exact hst1.bel.size | exact hst2.bel.size | (repeat (first | (with_reducible exact ZB.new _) | (with_reducible refine ZB.dr ?_) | (with_reducible refine ZB.step ?_ HB2.out) | (with_reducible refine ZB.step ?_ HB1.out)))))
  obtain ⟨V, h3, p3, rfl, rfl, hVz, hVb, hav, hst⟩ := hcut
  have HV3 := Lib.hid hVb
  have HA3 := Lib.hid hav
  obtain ⟨ws, hws⟩ : ∃ ws, ws = wc := ⟨_, rfl⟩
  subst hws
  have HSW := Lib.hid hst.p2
  clear hst hVb hav hVz HST HO1 HO2 HTW HSV
  have HST : Hid (LwS w ws h1 x1 f1 h2 x2 f2 ws) := ⟨HSW.out, Below.refl _ _, HSW.out.sz⟩
  have hwz : w.heap.size ≤ ws.heap.size := HSW.out.bel.size
  have HTA := Lib.hid (fun W => HTYA.out ws W hwz)
  have HTB := Lib.hid (HTYB.out ws hwz)
  have HTW := Lib.hid HTT.out
  clear HTYA HTYB HTT
  go_upto_region 4 with fail
  go_cut [9, 10] from 37 (fun v e wx => LpMid w ws h1 x1 f1 h2 x2 f2 rr v e wx)
  case first =>
   have hs0 := HST.out.dr
   have hs00 := HST.out
   go_region_held3 (fun W => ((W.cell? ⟨w.heap.size, 0, none⟩ = some (.slice h1.1 h1.2.1 h1.2.2) ∧ W.cell? ⟨w.heap.size, 1, none⟩ = some (.slice x1.1 x1.2.1 x1.2.2) ∧ W.cell? ⟨w.heap.size, 2, none⟩ = some (.int .i64 f1)) ∧ (W.cell? ⟨w.heap.size + 1, 0, none⟩ = some (.slice h2.1 h2.2.1 h2.2.2) ∧ W.cell? ⟨w.heap.size + 1, 1, none⟩ = some (.slice x2.1 x2.2.1 x2.2.2) ∧ W.cell? ⟨w.heap.size + 1, 2, none⟩ = some (.int .i64 f2))) ∧ LwS w ws h1 x1 f1 h2 x2 f2 W)
    (first | (with_reducible assumption) | (with_reducible (refine lws_s ?_); repeat (first | (with_reducible assumption) | (with_reducible refine LwS.dr ?_) | (with_reducible refine LwS.put ?_ (by first | assumption | omega | (simp; omega)) _) | (with_reducible refine LwS.al ?_ _))))
    (first
     | (go_at_call 12; (with_reducible refine (HTA.out _ ?_).mono ?_); exact LwS.self (by repeat (first | (with_reducible assumption) | (with_reducible refine LwS.dr ?_) | (with_reducible refine LwS.al ?_ _))); rintro e w1 ⟨u1, y1, rfl, hpv1, hb1⟩; have hst1 : LwS w ws h1 x1 f1 h2 x2 f2 w1 := LwS.step (by repeat (first | (with_reducible assumption) | (with_reducible refine LwS.dr ?_) | (with_reducible refine LwS.al ?_ _))) hb1; have hl1 := fun b e => fresh_lo hpv1 b e; obtain ⟨hc1, hfz1⟩ := bcell2 hb1; have hz1 := hb1.size; have hs1z := hst1.bel.size; (first | (have hsq1 : ws.heap.size < w1.heap.size := Nat.lt_of_lt_of_le (lt_al _ _) hz1) | (have hsq1 : ws.heap.size < w1.heap.size := Nat.lt_of_lt_of_le (lt_dr _ _) hz1) | skip); have HB1 := Lib.hid hb1; clear hb1)
     | (go_at_call 12; (with_reducible refine (HTB.out _ w1 _ _ _ _ _ hpv1 hl1 hs1z ?_ ?_).mono ?_); exact BelT.self' (by repeat (first | (with_reducible assumption) | (with_reducible exact BelT.refl _) | (with_reducible refine BelT.dr ?_) | (with_reducible refine BelT.al ?_ _))); exact LwS.self (by repeat (first | (with_reducible assumption) | (with_reducible refine LwS.dr ?_) | (with_reducible refine LwS.al ?_ _))); rintro e w2 ⟨u2, y2, rfl, hpv2, hb2⟩; have hst2 : LwS w ws h1 x1 f1 h2 x2 f2 w2 := LwS.step (by repeat (first | (with_reducible assumption) | (with_reducible refine LwS.dr ?_) | (with_reducible refine LwS.al ?_ _))) hb2; have hbl2 : BelT w1 w2 := BelT.step (by repeat (first | (with_reducible assumption) | (with_reducible exact BelT.refl _) | (with_reducible refine BelT.dr ?_) | (with_reducible refine BelT.al ?_ _))) hb2; have hk12 := fun b e h => fresh_old hpv2 b e h; obtain ⟨hc2, hfz2⟩ := bcell2 hb2; have hz2 := hb2.size; have hs2z := hst2.bel.size; (first | (have hsq2 : w1.heap.size < w2.heap.size := Nat.lt_of_lt_of_le (lt_al _ _) hz2) | (have hsq2 : w1.heap.size < w2.heap.size := Nat.lt_of_lt_of_le (lt_dr _ _) hz2) | (have hsq2 : w1.heap.size ≤ w2.heap.size := hz2) | skip); (first | (have hsr2 : ws.heap.size < w2.heap.size := Nat.lt_of_lt_of_le hsq1 (Nat.le_of_lt hsq2)) | (have hsr2 : ws.heap.size < w2.heap.size := Nat.lt_of_lt_of_le hsq1 hsq2) | skip); have HB2 := Lib.hid hb2; clear hb2)
     | (go_at_call 11; (with_reducible refine (HTW.out _ _ w1 w2 _ _ _ _ _ _ _ hk12 ?_ ?_ hbl2.size hpv1 hpv2).mono ?_); exact BelT.self' (by repeat (first | (with_reducible assumption) | (with_reducible exact BelT.refl _) | (with_reducible refine BelT.dr ?_) | (with_reducible refine BelT.al ?_ _))); exact BelT.self' (by repeat (first | (with_reducible assumption) | (with_reducible exact BelT.refl _) | (with_reducible refine BelT.dr ?_) | (with_reducible refine BelT.al ?_ _))); rintro e w5 ⟨h5, x5, g5, rfl, hpv5, hb5⟩; have hst5 : LwS w ws h1 x1 f1 h2 x2 f2 w5 := LwS.step (by repeat (first | (with_reducible assumption) | (with_reducible refine LwS.dr ?_) | (with_reducible refine LwS.al ?_ _))) hb5; obtain ⟨hc5, hfz5⟩ := bcell2 hb5; have hz5 := hb5.size; have hs5z := hst5.bel.size; (first | (have hsq5 : w2.heap.size < w5.heap.size := Nat.lt_of_lt_of_le (lt_al _ _) hz5) | (have hsq5 : w2.heap.size < w5.heap.size := Nat.lt_of_lt_of_le (lt_dr _ _) hz5) | (have hsq5 : w2.heap.size ≤ w5.heap.size := hz5) | skip); (first | (have hsr5 : ws.heap.size < w5.heap.size := Nat.lt_of_lt_of_le hsr2 hsq5) | skip); (first | (have hsr6 : w1.heap.size < w5.heap.size := Nat.lt_of_lt_of_le hsq2 hsq5) | skip); have HB5 := Lib.hid hb5; have HPV5 := Lib.hid hpv5; clear hb5 hpv5))
   all_goals
    go_wp2
    go_meet
    first
     | (with_reducible exact lpMid_new HPV5.out hst5)
     | (with_reducible refine lpMid_old HPV5.out hst5 (ZO.step ?_ HB5.out) ?_ ?_; all_goals (first | (with_reducible exact Nat.le_refl _) | exact hst1.bel.size | exact hst2.bel.size | (with_reducible exact .inl (.inl ⟨Nat.le_refl _, lt_al _ _⟩)) | (with_reducible exact .inl (.inl ⟨Nat.le_refl _, lt_dr _ _⟩)) | (with_reducible exact .inl (.inr ⟨Nat.le_refl _, lt_al _ _⟩)) | (with_reducible exact .inl (.inr ⟨Nat.le_refl _, lt_dr _ _⟩)) | (with_reducible exact .inr ⟨Nat.le_refl _, lt_al _ _⟩) | (with_reducible exact .inr ⟨Nat.le_refl _, lt_dr _ _⟩) | (repeat (first | (with_reducible exact ZO.new _ _) | (with_reducible refine ZO.dr ?_) | (with_reducible refine ZO.step ?_ HB2.out) | (with_reducible refine ZO.step ?_ HB1.out)))))
  obtain ⟨V4, h4, x4, g4, rfl, rfl, hVz, hVb, hpv, hst⟩ := hcut
  have HV4 := Lib.hid hVb
  have HP4 := Lib.hid hpv
  have HB4 := Lib.hid hst.bel
  have HBW := Lib.hid hst.p2.bel
  obtain ⟨wu, hwu⟩ : ∃ wu, wu = wc := ⟨_, rfl⟩
  subst hwu
  clear hst hVb hpv hVz HST HTA HTB HTW HSW
  have hv3 : wu.heap[V]? = some (arrO h3 p3) := by rw [HB4.out.block _ (lt_blk HV3.out)]; exact HV3.out
  obtain ⟨⟨c0, c1, c2, c3, c4, c5, c6, c7, c8⟩, cz⟩ := at9_of hv3
  obtain ⟨⟨d0, d1, d2⟩, dz⟩ := block3 HV4.out
  have HSHOW : Hid (Calls Tryz.prog 13 #[arrV h3 p3, .int .i64 rr.1, plV h4 x4 g4, .int .i64 rr.1] wu fun e w' => e = .returned (.bool true) ∧ Below wu.heap.size wu w') := by
   by_cases h0 : rr.1 = 0
   ·unfold Hid
    rw [h0]
    exact shows24_ok (fun b e => by subst e; exact lt_blk hv3) (HGD.out h0) HSM.out (AV.step (HA3.out.1 h0) HB4.out) (HP4.out h0)
   ·obtain ⟨rfl, rfl⟩ := HA3.out.2 h0
    exact shows24_err rr.1 h4 x4 g4 h0 wu
  clear hv3 HA3 HP4
  go_wp2_with fail
  refine HSHOW.out.mono ?_
  rintro e w7 ⟨rfl, hb⟩
  have HB7 := Lib.hid (bel_both HBW.out hb)
  clear hb c0 c1 c2 c3 c4 c5 c6 c7 c8 d0 d1 d2 cz dz
  go_wp2_with fail
  refine (awake24_any _).mono ?_
  rintro e w8 ⟨rfl, hb⟩
  have HB8 := Lib.hid (bel_both HB7.out hb)
  clear hb
  go_wp2
  go_ret
  exact ⟨rfl, HB8.out⟩
end Go.Proofs.YtiahegjdkejjpaaGreat
namespace Go.Proofs.YtiahegjdkejjpaaGreat
open Go Go.RowKit Go.Proofs Go.ChangeShapes Go.WideShapes Go.Deep
theorem one_le {H : Type} (d : DataW H) : 1 ≤ Rows.uptoBulk d := by
 cases d with
 | lit l => cases l <;> simp [Rows.uptoBulk]
 | nil => simp [Rows.uptoBulk]
 | ptr d => simp [Rows.uptoBulk]
 | slice elems spare => simp [Rows.uptoBulk]
 | agg parts => simp [Rows.uptoBulk]
 | iface t d => simp [Rows.uptoBulk]
 | map entries => simp [Rows.uptoBulk]
 | held h => simp [Rows.uptoBulk]
theorem bulk_len {H : Type} (l : List (DataW H)) : l.length ≤ Rows.uptoBulkAll l := by
 induction l with
 | nil => simp [Rows.uptoBulkAll]
 | cons x r ih => have := one_le x; simp only [Rows.uptoBulkAll, List.length_cons]; omega
theorem trodF {H : Type} {enc : TypeId × Value → H} {W : World} {sp : Nat → Bool} {held : Bool} {base n : Nat} {v : Value} {d : DataW H × List MemPlace}
  (h : DataW.trod enc Tryz.prog W base sp held n 50 [v] = some d) : ∃ b, v = .float .f64 b ∧ b < 18446744073709551616 := by
 cases n with
 | zero => simp [DataW.trod] at h
 | succ n =>
  cases v <;> simp [DataW.trod, Tryz.underlying50] at h
  rename_i k b
  obtain ⟨h1, _⟩ := h
  obtain ⟨rfl, h2⟩ := h1
  exact ⟨b, rfl, by simpa [Lit.wf] using h2⟩
theorem slice_reads {H : Type} {enc : TypeId × Value → H} {W : World} {sp : Nat → Bool} {held : Bool} {base fuel : Nat} {t e : TypeId} {v : Value} {x : DataW H × List MemPlace} {α : Type} (g : α → Value) (z : α) (ht : Tryz.prog.underlying t = some (.slice e)) (hc : Tryz.prog.cellsOf e = 1)
  (hg : ∀ {n : Nat} {v : Value} {y : DataW H × List MemPlace}, DataW.trod enc Tryz.prog W base sp held n e [v] = some y → ∃ b, v = g b)
  (h : DataW.trod enc Tryz.prog W base sp held fuel t [v] = some x) : ∃ (l : List α) (s : Sl), v = sv s ∧ RdH (fun _ => False) W (sv s) (l.map g) ∧ l.length + 1 ≤ Rows.uptoBulk x.1 := by
 rcases open_slice1 ht hc h with ⟨hcs, rfl⟩ | ⟨a, n, c', m, k, V, D, Pl, hcs, _, hl, hm, hmm, rfl, hcell⟩
 ·obtain rfl : v = .slice none 0 0 := by simpa using hcs
  exact ⟨[], (none, 0, 0), rfl, fun _ _ _ => .inl ⟨none, 0, rfl, rfl⟩, by simp [Rows.uptoBulk]⟩
 ·obtain rfl : v = .slice (some a) n c' := by simpa using hcs
  have hnm : n ≤ m := by rw [hmm]; split <;> omega
  by_cases h0 : n = 0
  ·subst h0; exact ⟨[], (some a, 0, c'), rfl, fun _ _ _ => .inl ⟨_, _, rfl, rfl⟩, by simp only [List.length_nil]; exact one_le _⟩
  have hfl : ∀ i, ∃ b, i < m → V i = g b := fun i => by
   by_cases hi : i < m
   ·obtain ⟨b, hb⟩ := hg (hcell i hi).2; exact ⟨b, fun _ => hb⟩
   ·exact ⟨z, fun h => absurd h hi⟩
  obtain ⟨b, hb⟩ := Classical.axiomOfChoice hfl
  obtain ⟨bl, off, spot⟩ := a
  have hspot : spot = none := by simpa [Addr.add] using World.cell?_spot (hcell 0 (by omega)).1
  subst hspot
  refine ⟨(List.range n).map b, (some ⟨bl, off, none⟩, n, c'), rfl, fun W' _ hb' => .inr ⟨bl, off, n, c', rfl, by simp, fun i hi => ?_⟩, ?_⟩
  ·have hi' : i < n := by simpa using hi
   have := (hcell i (by omega)).1
   have e : (⟨bl, off, none⟩ : Addr).add i = ⟨bl, off + i, none⟩ := by
    unfold Addr.add; split
    ·rename_i h0; subst h0; rfl
    ·rfl
   rw [e] at this
   rw [World.cell?_of_block (w := W) (hb' bl (cell_lt this) (fun h => h)), this, hb i (by omega)]
   simp
  ·have := bulk_len ((List.range n).map D)
   simp only [Rows.uptoBulk]
   simp at this ⊢
   omega
theorem sum_bulk {H α : Type} (c : α → Nat) : ∀ (ts : List α) (ds : List (DataW H)), ts.length = ds.length → (∀ i (h : i < ts.length) (h2 : i < ds.length), c ts[i] + 1 ≤ Rows.uptoBulk ds[i]) → (ts.map c).sum + ts.length ≤ Rows.uptoBulkAll ds
 | [], _, _, _ => by simp
 | _ :: _, [], h, _ => by simp at h
 | t :: ts, d :: ds, hl, h => by
  have h0 := h 0 (by simp) (by simp)
  have := sum_bulk c ts ds (by simpa using hl) (fun i h1 h2 => by have := h (i + 1) (by simpa using h1) (by simpa using h2); simpa using this)
  simp only [List.map_cons, List.sum_cons, List.length_cons, Rows.uptoBulkAll]
  simp at h0
  omega
theorem cntIs_sum : ∀ ts : List RI, cntIs ts = (ts.map cntI).sum
 | [] => by rw [cntIs]; rfl
 | t :: ts => by rw [cntIs, cntIs_sum ts]; simp
theorem cntPs_sum : ∀ ts : List RP, cntPs ts = (ts.map cntP).sum
 | [] => by rw [cntPs]; rfl
 | t :: ts => by rw [cntPs, cntPs_sum ts]; simp
theorem fitIs_of : ∀ (ts : List RI), (∀ i (h : i < ts.length), FitI ts[i]) → FitIs ts
 | [], _ => by rw [FitIs]; trivial
 | t :: ts, h => by
  rw [FitIs]
  exact ⟨by have := h 0 (by simp); simpa using this, fitIs_of ts fun i hi => by have := h (i + 1) (by simpa using hi); simpa using this⟩
theorem fitPs_of : ∀ (ts : List RP), (∀ i (h : i < ts.length), FitP ts[i]) → FitPs ts
 | [], _ => by rw [FitPs]; trivial
 | t :: ts, h => by
  rw [FitPs]
  exact ⟨by have := h 0 (by simp); simpa using this, fitPs_of ts fun i hi => by have := h (i + 1) (by simpa using hi); simpa using this⟩
theorem c_int : Tryz.prog.cellsOf 3 = 1 := by kernel_rfl
theorem c_ints : Tryz.prog.cellsOf 22 = 1 := by kernel_rfl
theorem c_f64 : Tryz.prog.cellsOf 50 = 1 := by kernel_rfl
theorem c_i32 : Tryz.prog.cellsOf 21 = 1 := by kernel_rfl
theorem c_items : Tryz.prog.cellsOf 23 = 1 := by kernel_rfl
theorem c_plains : Tryz.prog.cellsOf 51 = 1 := by kernel_rfl
theorem c_plain : Tryz.prog.cellsOf 25 = 3 := by kernel_rfl
theorem c_item : Tryz.prog.cellsOf 53 = 4 := by kernel_rfl
theorem add_off (b o j : Nat) : (⟨b, o, none⟩ : Addr).add j = ⟨b, o + j, none⟩ := by
 unfold Addr.add; split
 ·rename_i h0; subst h0; rfl
 ·rfl
set_option maxRecDepth 100000 in
mutual
theorem plain_open {H : Type} {enc : TypeId × Value → H} {W : World} {sp : Nat → Bool} {held : Bool} {base : Nat} : ∀ (N fuel : Nat) (cs : List Value) (x : DataW H × List MemPlace), fuel ≤ N → DataW.trod enc Tryz.prog W base sp held fuel 25 cs = some x →
  ∃ t h y f, cs = [sv h, sv y, .int .i64 f] ∧ PV (fun _ => False) W t h y f ∧ FitP t ∧ cntP t ≤ Rows.uptoBulk x.1
 | N, fuel, cs, x, hN, h => by
  obtain ⟨xs, n, hfuel, rfl, hcl, hxl, hf⟩ := DataW.trod_struct Tryz.underlying25 h
  rw [c_plain] at hcl
  match cs, hcl, xs, hxl with
  | [v0, v1, v2], _, [y0, y1, y2], _ =>
   have h0 := hf 0 _ rfl
   have h1 := hf 1 _ rfl
   have h2 := hf 2 _ rfl
   simp only [List.getElem_toArray, List.getElem_cons_zero, List.getElem_cons_succ] at h0 h1 h2
   rw [c_ints] at h0
   rw [c_items] at h1
   rw [c_int] at h2
   simp at h0 h1 h2
   obtain ⟨k, e2, rfl, w2⟩ := DataW.trod_int Tryz.underlying3 h2
   obtain rfl : v2 = .int .i64 k := by simpa using e2
   obtain ⟨s, hs, rfl, rs, bs⟩ := slice_reads (Value.int .i64) 0 Tryz.underlying22 c_int (fun h => by obtain ⟨b, hb, _⟩ := DataW.trod_int Tryz.underlying3 h; exact ⟨b, by simpa using hb⟩) h0
   rcases DataW.trod_slice Tryz.underlying23 h1 with ⟨hcs, rfl⟩ | ⟨a, len, cap, elems, rest, n', hn', hcs, rfl, _, hle, _, hel, hcell, _, _⟩
   ·obtain rfl : v1 = .slice none 0 0 := by simpa using hcs
    refine ⟨.mk s [] k, hs, nilS, k, rfl, ?_, ?_, ?_⟩
    ·rw [PV]; exact ⟨rs, rfl, rfl, .inl ⟨rfl, trivial⟩⟩
    ·rw [FitP, FitIs]; trivial
    ·simp only [cntP, cntIs, Rows.uptoBulk, List.map_cons, Rows.uptoBulkAll, List.length_nil]; omega
   ·obtain rfl : v1 = .slice (some a) len cap := by simpa using hcs
    have hk : ∀ i, ∃ t, i < len → ∃ k n c y d, elems[i]? = some d ∧ (∀ j, j < 4 → W.cell? (a.add (i * 4 + j)) = [Value.int .i64 k, .float .f64 n, .int .i32 c, sv y][j]?) ∧ IV (fun _ => False) W t k n c y ∧ FitI t ∧ cntI t + 1 ≤ Rows.uptoBulk d.1 := by
     intro i
     by_cases hi : i < len
     ·have := hcell i hi
      have he : elems[i]? = some (elems[i]'(by omega)) := List.getElem?_eq_getElem (by omega)
      rw [he, c_item, Option.bind_eq_some_iff] at this
      obtain ⟨cs', hc1, hc2⟩ := this
      obtain ⟨t, k, n, c, y, rfl, q1, q2, q3⟩ := item_open (N - 1) n' cs' _ (by omega) hc2
      obtain ⟨_, _, hat⟩ := World.cells?_some hc1
      exact ⟨t, fun _ => ⟨k, n, c, y, _, he, fun j hj => by rw [← Go.Deep.add_add]; exact hat j hj, q1, q2, q3⟩⟩
     ·exact ⟨default, fun h => absurd h hi⟩
    obtain ⟨T, hT⟩ := Classical.axiomOfChoice hk
    have hts : ((List.range len).map T).length = len := by simp
    have hsum := sum_bulk cntI ((List.range len).map T) (elems.map (·.1)) (by simp [hel]) fun i h1 h2 => by
     have hi : i < len := by simpa using h1
     obtain ⟨_, _, _, _, d, he, _, _, _, hs⟩ := hT i hi
     have he' : elems[i]'(by omega) = d := by rw [List.getElem?_eq_getElem (by omega)] at he; exact Option.some.inj he
     simp [he']; exact hs
    refine ⟨.mk s ((List.range len).map T) k, hs, (some a, len, cap), k, rfl, ?_, ?_, ?_⟩
    ·by_cases h0 : len = 0
     ·subst h0
      rw [PV]; exact ⟨rs, rfl, rfl, .inl ⟨rfl, trivial⟩⟩
     ·obtain ⟨_, _, _, _, _, _, hc0, _⟩ := hT 0 (by omega)
      obtain ⟨bl, off, spot⟩ := a
      have hspot : spot = none := by have := hc0 0 (by omega); simpa [Addr.add] using World.cell?_spot this
      subst hspot
      refine pv_of rs (by simp) fun i hi => ?_
      have hi' : i < len := by simpa using hi
      obtain ⟨k, n, c, y, d, _, hc, hr, _, _⟩ := hT i hi'
      refine ⟨bl, off, k, n, c, y, rfl, fun h => h, by simpa using hr, ?_, ?_, ?_, ?_⟩
      ·have := hc 0 (by omega); rw [add_off] at this; simpa using this
      ·have := hc 1 (by omega); rw [add_off] at this; simpa [Nat.add_assoc] using this
      ·have := hc 2 (by omega); rw [add_off] at this; simpa [Nat.add_assoc] using this
      ·have := hc 3 (by omega); rw [add_off] at this; simpa [Nat.add_assoc] using this
    ·rw [FitP]
     refine fitIs_of _ fun i hi => ?_
     have hi' : i < len := by simpa using hi
     obtain ⟨_, _, _, _, _, _, _, _, hft, _⟩ := hT i hi'
     simpa using hft
    ·rw [hts, ← cntIs_sum] at hsum
     simp only [cntP, Rows.uptoBulk, List.map_cons, List.map_nil, Rows.uptoBulkAll, hts]
     omega
 termination_by N => N
 decreasing_by omega
theorem item_open {H : Type} {enc : TypeId × Value → H} {W : World} {sp : Nat → Bool} {held : Bool} {base : Nat} : ∀ (N fuel : Nat) (cs : List Value) (x : DataW H × List MemPlace), fuel ≤ N → DataW.trod enc Tryz.prog W base sp held fuel 53 cs = some x →
  ∃ t k n c y, cs = [.int .i64 k, .float .f64 n, .int .i32 c, sv y] ∧ IV (fun _ => False) W t k n c y ∧ FitI t ∧ cntI t + 1 ≤ Rows.uptoBulk x.1
 | N, fuel, cs, x, hN, h => by
  obtain ⟨xs, n, hfuel, rfl, hcl, hxl, hf⟩ := DataW.trod_struct Tryz.underlying53 h
  rw [c_item] at hcl
  match cs, hcl, xs, hxl with
  | [v0, v1, v2, v3], _, [y0, y1, y2, y3], _ =>
   have h0 := hf 0 _ rfl
   have h1 := hf 1 _ rfl
   have h2 := hf 2 _ rfl
   have h3 := hf 3 _ rfl
   simp only [List.getElem_toArray, List.getElem_cons_zero, List.getElem_cons_succ] at h0 h1 h2 h3
   rw [c_int] at h0
   rw [c_f64] at h1
   rw [c_i32] at h2
   rw [c_plains] at h3
   simp at h0 h1 h2 h3
   obtain ⟨k, e0, rfl, w0⟩ := DataW.trod_int Tryz.underlying3 h0
   obtain rfl : v0 = .int .i64 k := by simpa using e0
   obtain ⟨m, rfl, hm⟩ := trodF h1
   obtain ⟨c, e2, rfl, w2⟩ := DataW.trod_int Tryz.underlying21 h2
   obtain rfl : v2 = .int .i32 c := by simpa using e2
   rcases DataW.trod_slice Tryz.underlying51 h3 with ⟨hcs, rfl⟩ | ⟨a, len, cap, elems, rest, n', hn', hcs, rfl, _, hle, _, hel, hcell, _, _⟩
   ·obtain rfl : v3 = .slice none 0 0 := by simpa using hcs
    refine ⟨.mk k m c [], k, m, c, nilS, rfl, iv_none _ W _ _ _ _ _, ?_, ?_⟩
    ·rw [FitI, FitPs]; exact ⟨hm, trivial⟩
    ·simp only [cntI, cntPs, Rows.uptoBulk, List.map_cons, Rows.uptoBulkAll]; omega
   ·obtain rfl : v3 = .slice (some a) len cap := by simpa using hcs
    have hk : ∀ i, ∃ t, i < len → ∃ h y f d, elems[i]? = some d ∧ (∀ j, j < 3 → W.cell? (a.add (i * 3 + j)) = [sv h, sv y, Value.int .i64 f][j]?) ∧ PV (fun _ => False) W t h y f ∧ FitP t ∧ cntP t ≤ Rows.uptoBulk d.1 := by
     intro i
     by_cases hi : i < len
     ·have := hcell i hi
      have he : elems[i]? = some (elems[i]'(by omega)) := List.getElem?_eq_getElem (by omega)
      rw [he, c_plain, Option.bind_eq_some_iff] at this
      obtain ⟨cs', hc1, hc2⟩ := this
      obtain ⟨t, h, y, f, rfl, q1, q2, q3⟩ := plain_open (N - 1) n' cs' _ (by omega) hc2
      obtain ⟨_, _, hat⟩ := World.cells?_some hc1
      exact ⟨t, fun _ => ⟨h, y, f, _, he, fun j hj => by rw [← Go.Deep.add_add]; exact hat j hj, q1, q2, q3⟩⟩
     ·exact ⟨default, fun h => absurd h hi⟩
    obtain ⟨T, hT⟩ := Classical.axiomOfChoice hk
    have hts : ((List.range len).map T).length = len := by simp
    have hsum := sum_bulk (fun t => cntP t - 1) ((List.range len).map T) (elems.map (·.1)) (by simp [hel]) fun i h1 h2 => by
     have hi : i < len := by simpa using h1
     obtain ⟨_, _, _, d, he, _, _, _, hs⟩ := hT i hi
     have he' : elems[i]'(by omega) = d := by rw [List.getElem?_eq_getElem (by omega)] at he; exact Option.some.inj he
     have := cntP_pos (T i)
     simp [he']; omega
    have hsum2 : cntPs ((List.range len).map T) ≤ Rows.uptoBulkAll (elems.map (·.1)) := by
     rw [cntPs_sum]
     refine Nat.le_trans ?_ hsum
     generalize (List.range len).map T = ts
     induction ts with
     | nil => simp
     | cons t ts ih => simp only [List.map_cons, List.sum_cons, List.length_cons]; omega
    refine ⟨.mk k m c ((List.range len).map T), k, m, c, (some a, len, cap), rfl, ?_, ?_, ?_⟩
    ·by_cases h0 : len = 0
     ·subst h0; exact iv_none _ W _ _ _ _ _
     ·obtain ⟨_, _, _, _, _, hc0, _⟩ := hT 0 (by omega)
      obtain ⟨bl, off, spot⟩ := a
      have hspot : spot = none := by have := hc0 0 (by omega); simpa [Addr.add] using World.cell?_spot this
      subst hspot
      rw [IV]
      refine ⟨rfl, rfl, rfl, by simp, .inr ⟨bl, off, rfl, fun h => h, pvs_of _ _ fun i hi => ?_⟩⟩
      have hi' : i < len := by simpa using hi
      obtain ⟨h, y, f, d, _, hc, hr, _, _⟩ := hT i hi'
      refine ⟨h, y, f, ⟨?_, ?_, ?_⟩, by simpa using hr⟩
      ·have := hc 0 (by omega); rw [add_off] at this; simpa using this
      ·have := hc 1 (by omega); rw [add_off] at this; simpa [Nat.add_assoc] using this
      ·have := hc 2 (by omega); rw [add_off] at this; simpa [Nat.add_assoc] using this
    ·rw [FitI]
     refine ⟨hm, fitPs_of _ fun i hi => ?_⟩
     have hi' : i < len := by simpa using hi
     obtain ⟨_, _, _, _, _, _, _, hft, _⟩ := hT i hi'
     simpa using hft
    ·simp only [cntI, Rows.uptoBulk, List.map_cons, List.map_nil, Rows.uptoBulkAll]
     omega
 termination_by N => N
 decreasing_by omega
end
end Go.Proofs.YtiahegjdkejjpaaGreat
