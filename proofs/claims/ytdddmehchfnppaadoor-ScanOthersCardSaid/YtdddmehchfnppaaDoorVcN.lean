/- The walks of scan.Scan at an unknown function, at characters and at boxes. Conditions: as each theorem says. -/
import Derived.Test.YtdddmehchfnppaaDoorVcF
import Derived.Test.YtdddmehchfnppaaDoorVcI
namespace Go.Proofs.YtdddmehchfnppaaDoor
open Go Go.RowKit Go.Proofs Fl

set_option maxRecDepth 100000 in
set_option maxHeartbeats 1000000 in
theorem scan_unknown (q : Int) (hq : knownB q = false) (k : Int) (b : Value) (bn : Int) (s i f c x : Value) (o n r : Int) (w : World) :
    Calls Tryd.prog 23 #[.int .i64 q, vecV k b bn s i f c x, .int .i64 o, .int .i64 n, .int .i64 r] w fun e w' => e = .returned (.tuple #[vecV 0 vnil 0 vnil vnil vnil vnil vnil, .int .i64 1]) ∧ Below w.heap.size w w' := by
  have HK := Lib.hid (fun W => hq ▸ known_any q W)
  have HS := Lib.hid (St.new w k b bn s i f c x)
  clear hq
  go_enter Tryd.func23, Tryd.ntmps23
  go_wp2_with fail
  refine (HK.out _).mono ?_
  rintro e w1 ⟨rfl, hw⟩
  rw [hw] at HS
  clear hw
  obtain ⟨⟨h0, h1, h2, h3, h4, h5, h6, h7⟩, hz⟩ := boxed_of HS.out.res
  go_wp2
  refine bodyPost_ret (v := .tuple #[vecV 0 vnil 0 vnil vnil vnil vnil vnil, .int .i64 1]) ?_ rfl ⟨rfl, below_set8 HS.out.bel (Nat.le_succ _) _ _ _ _ _ _ _ _⟩
  exact ret_vec2 (fn := Tryd.f23) (p := 10) (u := 11) rfl _ _ (w.heap.size + 1) (by rfl) (set8_block HS.out.res _ _ _ _ _ _ _ _)

set_option maxRecDepth 100000 in
set_option maxHeartbeats 1000000 in
theorem scan_chars_dom (q : Int) (hq : knownB q = true) (b : Value) (bn : Int) (s i f c x : Value) (o n r : Int) (ho : 0 ≤ o) (hr : 0 ≤ r) (h1 : 1 < n) (w : World) :
    Calls Tryd.prog 23 #[.int .i64 q, vecV 5 b bn s i f c x, .int .i64 o, .int .i64 n, .int .i64 r] w fun e w' => e = .returned (.tuple #[vecV 0 vnil 0 vnil vnil vnil vnil vnil, .int .i64 24]) ∧ Below w.heap.size w w' := by
  have HK := Lib.hid (fun W => hq ▸ known_any q W)
  have HS := Lib.hid (St.new w 5 b bn s i f c x)
  have HC := Lib.hid (fun W => class_5 b bn s i f c x W)
  have o1 : ¬ o < 0 := by omega
  have n1 : ¬ n < 0 := by omega
  have r1 : ¬ r < 0 := by omega
  clear hq ho hr
  go_enter Tryd.func23, Tryd.ntmps23
  go_wp2_with fail
  refine (HK.out _).mono ?_
  rintro e w1 ⟨rfl, hw⟩
  rw [hw] at HS
  clear hw
  obtain ⟨h0, h1, h2, h3, h4, h5, h6, h7⟩ := HS.out.box
  go_wp2_with fail
  refine (HC.out _).mono ?_
  rintro e w2 ⟨rfl, hb2⟩
  have HS2 := Lib.hid (HS.out.step hb2)
  clear hb2 h0 h1 h2 h3 h4 h5 h6 h7 HS
  have HSE := HS2
  obtain ⟨⟨h0, h1, h2, h3, h4, h5, h6, h7⟩, hz⟩ := boxed_of HSE.out.res
  go_wp2
  refine bodyPost_ret (v := .tuple #[vecV 0 vnil 0 vnil vnil vnil vnil vnil, .int .i64 24]) ?_ rfl ⟨rfl, below_set8 HSE.out.bel (Nat.le_succ _) _ _ _ _ _ _ _ _⟩
  exact ret_vec2 (fn := Tryd.f23) (p := 10) (u := 11) rfl _ _ (w.heap.size + 1) (by rfl) (set8_block HSE.out.res _ _ _ _ _ _ _ _)

set_option maxRecDepth 100000 in
set_option maxHeartbeats 1000000 in
theorem scan_boxes_dom (q : Int) (hq : knownB q = true) (b : Value) (bn : Int) (s i f c x : Value) (o n r : Int) (ho : 0 ≤ o) (hn : 0 ≤ n) (hr : 0 ≤ r) (h1 : n = 1) (w : World) :
    Calls Tryd.prog 23 #[.int .i64 q, vecV 6 b bn s i f c x, .int .i64 o, .int .i64 n, .int .i64 r] w fun e w' => e = .returned (.tuple #[vecV 0 vnil 0 vnil vnil vnil vnil vnil, .int .i64 24]) ∧ Below w.heap.size w w' := by
  have HK := Lib.hid (fun W => hq ▸ known_any q W)
  have HS := Lib.hid (St.new w 6 b bn s i f c x)
  have HC := Lib.hid (fun W => class_6 b bn s i f c x W)
  have o1 : ¬ o < 0 := by omega
  have r1 : ¬ r < 0 := by omega
  subst h1
  clear hq ho hn hr
  go_enter Tryd.func23, Tryd.ntmps23
  go_wp2_with fail
  refine (HK.out _).mono ?_
  rintro e w1 ⟨rfl, hw⟩
  rw [hw] at HS
  clear hw
  obtain ⟨h0, h1, h2, h3, h4, h5, h6, h7⟩ := HS.out.box
  go_wp2_with fail
  refine (HC.out _).mono ?_
  rintro e w2 ⟨rfl, hb2⟩
  have HS2 := Lib.hid (HS.out.step hb2)
  clear hb2 h0 h1 h2 h3 h4 h5 h6 h7 HS
  obtain ⟨h0, h1, h2, h3, h4, h5, h6, h7⟩ := HS2.out.box
  go_wp2_with fail
  refine (HC.out _).mono ?_
  rintro e w3 ⟨rfl, hb3⟩
  have HSE := Lib.hid (HS2.out.step hb3)
  clear hb3 h0 h1 h2 h3 h4 h5 h6 h7 HS2
  obtain ⟨⟨h0, h1, h2, h3, h4, h5, h6, h7⟩, hz⟩ := boxed_of HSE.out.res
  go_wp2
  refine bodyPost_ret (v := .tuple #[vecV 0 vnil 0 vnil vnil vnil vnil vnil, .int .i64 24]) ?_ rfl ⟨rfl, below_set8 HSE.out.bel (Nat.le_succ _) _ _ _ _ _ _ _ _⟩
  exact ret_vec2 (fn := Tryd.f23) (p := 10) (u := 11) rfl _ _ (w.heap.size + 1) (by rfl) (set8_block HSE.out.res _ _ _ _ _ _ _ _)


set_option maxRecDepth 100000 in
set_option maxHeartbeats 1000000 in
theorem scan_chars_one (q : Int) (hq : knownB q = true) (b : Value) (bn : Int) (s i f x : Value) (p : Option Addr) (m d : Nat) (o n r : Int) (ho : 0 ≤ o) (hn : 0 ≤ n) (hle : n ≤ 1) (hr : 0 ≤ r) (hb : b = vnil) (hs : s = vnil) (hi : i = vnil) (hf : f = vnil) (hx : x = vnil) (w : World) :
    Calls Tryd.prog 23 #[.int .i64 q, vecV 5 b bn s i f (.slice p m d) x, .int .i64 o, .int .i64 n, .int .i64 r] w fun e w' => e = .returned (.tuple #[vecV 5 b bn s i f (.slice p m d) x, .int .i64 0]) ∧ Below w.heap.size w w' := by
  subst hb hs hi hf hx
  have HK := Lib.hid (fun W => hq ▸ known_any q W)
  have HS := Lib.hid (St.new w 5 vnil bn vnil vnil vnil (.slice p m d) vnil)
  have HC := Lib.hid (fun W => class_5 vnil bn vnil vnil vnil (.slice p m d) vnil W)
  have o1 : ¬ o < 0 := by omega
  have r1 : ¬ r < 0 := by omega
  have n1 : ¬ n < 0 := by omega
  have n2 : ¬ 1 < n := by omega
  clear hq ho hr hn hle
  go_enter Tryd.func23, Tryd.ntmps23
  go_wp2_with fail
  refine (HK.out _).mono ?_
  rintro e w1 ⟨rfl, hw⟩
  rw [hw] at HS
  clear hw
  obtain ⟨h0, h1, h2, h3, h4, h5, h6, h7⟩ := HS.out.box
  go_wp2_with fail
  refine (HC.out _).mono ?_
  rintro e w2 ⟨rfl, hb2⟩
  have HS2 := Lib.hid (HS.out.step hb2)
  clear hb2 h0 h1 h2 h3 h4 h5 h6 h7 HS
  obtain ⟨h0, h1, h2, h3, h4, h5, h6, h7⟩ := HS2.out.box
  go_wp2_with fail
  refine (HC.out _).mono ?_
  rintro e w3 ⟨rfl, hb3⟩
  have HSE := Lib.hid (HS2.out.step hb3)
  clear hb3 h0 h1 h2 h3 h4 h5 h6 h7 HS2
  obtain ⟨h0, h1, h2, h3, h4, h5, h6, h7⟩ := HSE.out.box
  obtain ⟨⟨g0, g1, g2, g3, g4, g5, g6, g7⟩, hz⟩ := boxed_of HSE.out.res
  go_wp2
  refine bodyPost_ret (v := .tuple #[vecV 5 vnil bn vnil vnil vnil (.slice p m d) vnil, .int .i64 0]) ?_ rfl ⟨rfl, below_set8 HSE.out.bel (Nat.le_succ _) _ _ _ _ _ _ _ _⟩
  exact ret_vec2 (fn := Tryd.f23) (p := 10) (u := 11) rfl _ _ (w.heap.size + 1) (by rfl) (set8_block HSE.out.res _ _ _ _ _ _ _ _)
end Go.Proofs.YtdddmehchfnppaaDoor
