/- The walk of lex.Cut. Conditions: as each theorem says. -/
import Derived.Test.YtnhnaallalgefaaDoorTks
import Derived.WalkMore
import Derived.Deep.LoopGhost
namespace Go.Proofs.YtnhnaallalgefaaDoor
open Go Go.RowKit Go.Proofs Fl

/-- what lex.Cut tells -/
def CutTells (r : Except Nat (List Tok)) (B : Nat) (e : Ending) (w' : World) : Prop :=
  match r with
  | .ok ts => ∃ v ps, ps.map Prod.fst = ts ∧ e = .returned (.tuple #[v, .nilIface]) ∧ ToksOwn w' B v ps
  | .error i => ∃ v, e = .returned (.tuple #[.slice none 0 0, v]) ∧ Raised w' 20 (i : Int) v
theorem CutTells.ok {r : Except Nat (List Tok)} {ts : List Tok} (hr : r = .ok ts) {B : Nat} {w' : World} {v : Value} {ps : List (Tok × Value)} (hp : ps.map Prod.fst = ts) (h : ToksOwn w' B v ps) : CutTells r B (.returned (.tuple #[v, .nilIface])) w' := by
  rw [hr]; exact ⟨v, ps, hp, rfl, h⟩
theorem CutTells.err {r : Except Nat (List Tok)} {i : Nat} (hr : r = .error i) {B : Nat} {w' : World} {v : Value} (h : Raised w' 20 (i : Int) v) : CutTells r B (.returned (.tuple #[.slice none 0 0, v])) w' := by
  rw [hr]; exact ⟨v, rfl, h⟩

/-- words behind others -/
def preT (ts : List Tok) (r : Except Nat (List Tok)) : Except Nat (List Tok) := r.map (ts ++ ·)
theorem preT_nil (r : Except Nat (List Tok)) : preT [] r = r := by cases r <;> rfl
theorem preT_ok (ts us : List Tok) : preT ts (.ok us) = .ok (ts ++ us) := rfl
theorem preT_err (ts : List Tok) (i : Nat) : preT ts (.error i) = .error i := rfl
theorem preT_cons (ts : List Tok) (t : Tok) (r : Except Nat (List Tok)) : preT ts (r.map (t :: ·)) = preT (ts ++ [t]) r := by cases r <;> simp [preT, Except.map]

theorem cutF_end {l : List Int} {f k : Nat} (h : ¬ k < l.length) : cutF l f k = .ok [] := by cases f with | zero => rfl | succ f => rw [cutF, if_neg h]
theorem cutF_blank {l : List Int} {f k : Nat} (h : k < l.length) (hb : l.getD k 0 = 32 ∨ l.getD k 0 = 9 ∨ l.getD k 0 = 13) : cutF l (f + 1) k = cutF l f (k + 1) := by rw [cutF, if_pos h, if_pos hb]
theorem cutF_note {l : List Int} {f k : Nat} (h : k < l.length) (hb : l.getD k 0 = 9053) : cutF l (f + 1) k = if lineTo l k < l.length then cutF l f (lineTo l k) else .ok [] := by rw [cutF, if_pos h, if_neg (by omega), if_pos hb]; rfl
theorem cutF_word {l : List Int} {f k e : Nat} {t : Tok} (h : k < l.length) (hb : ¬ (l.getD k 0 = 32 ∨ l.getD k 0 = 9 ∨ l.getD k 0 = 13)) (hn : ¬ l.getD k 0 = 9053) (hw : wordS l k = some (t, e)) : cutF l (f + 1) k = (cutF l f e).map (t :: ·) := by rw [cutF, if_pos h, if_neg hb, if_neg hn, hw]
theorem cutF_bad {l : List Int} {f k : Nat} (h : k < l.length) (hb : ¬ (l.getD k 0 = 32 ∨ l.getD k 0 = 9 ∨ l.getD k 0 = 13)) (hn : ¬ l.getD k 0 = 9053) (hw : wordS l k = none) : cutF l (f + 1) k = .error k := by rw [cutF, if_pos h, if_neg hb, if_neg hn, hw]

theorem apart_of {wr w1 : World} {B : Nat} {v d : Value} {ps : List (Tok × Value)} {l : List Int} (h1 : ToksOwn wr B v ps) (h2 : OwnR w1 wr.heap.size d l) : Apart v d := by
  unfold Apart
  cases hv : v.ownBlock with
  | none => exact .inl rfl
  | some k =>
    cases hd : d.ownBlock with
    | none => exact .inr (.inl rfl)
    | some j =>
      have a := (World.ownsRow.lt h1.1 k hv).2
      have b := (World.ownsRow.lt h2 j hd).1
      exact .inr (.inr fun e => by injection e with e; omega)

set_option maxRecDepth 100000 in
set_option maxHeartbeats 3200000 in
theorem cut_walk (A : Option Addr) (n cc : Nat) (l : List Int) (w : World) (hr : Runes w (.slice A n cc) l) (hcc : n ≤ cc) (hl : l.length ≤ 4096) :
    Calls Tryd.prog 88 #[.slice A n cc] w fun e w' => CutTells (cutS l) w.heap.size e w' ∧ Below w.heap.size w w' := by
  obtain ⟨A', cc', n', hv', hn, hcell⟩ := hr.opn
  obtain ⟨rfl, rfl, rfl⟩ : A = A' ∧ n = n' ∧ cc = cc' := by simpa using hv'
  have HC := Lib.hid hcell
  have HN := Lib.hid hn
  have hn4 : n ≤ 4096 := by omega
  have hsf := st_float
  have HWD : Hid (∀ k wr, k < l.length → Below w.heap.size w wr → Calls Tryd.prog 103 #[.slice A n cc, .int .i64 (k : Int)] wr fun e w' => TokTells (wordS l k) k wr.heap.size e w' ∧ Below wr.heap.size wr w') :=
    fun k wr hk hb => word_any A n cc l k wr (hr.below hb) hcc hl hk
  obtain ⟨R, hR⟩ : ∃ R, R = cutS l := ⟨_, rfl⟩
  have HR0 : Hid (R = preT [] (cutF l l.length 0)) := by unfold Hid; rw [preT_nil]; exact hR
  rw [← hR]
  clear hR hv' hn hcell hr
  go_enter Tryd.func88, Tryd.ntmps88
  go_wp2
  go_step3
  go_wp2
  go_step3
  go_wp2
  go_loopg [4, 5] n (fun g v p wr => ∃ (k : Nat) (ps : List (Tok × Value)), k ≤ n ∧ n ≤ k + g ∧ p = .int .i64 (k : Int) ∧ ps.length ≤ k ∧ ToksOwn wr w.heap.size v ps ∧ Below w.heap.size w wr ∧ Hid (R = preT (ps.map Prod.fst) (cutF l g k)))
  case atStart => exact ⟨0, [], by omega, by omega, rfl, Nat.le_refl _, ToksOwn.nil _ _, Below.refl _ _, by rw [HN.out]; exact HR0.out⟩
  case round =>
    obtain ⟨k, ps, hk, hf, rfl, hps, hown, hbl, hR⟩ := hrel
    have HOWN := Lib.hid hown
    have HBL := Lib.hid hbl
    have HRR := Lib.hid hR.out
    have hsz : w.heap.size ≤ wr.heap.size := hbl.size
    by_cases hlt : k < n
    · have hkl : k < l.length := by have := HN.out; omega
      obtain ⟨b, o, rfl, hce⟩ := HC.out k hkl
      have hce2 := hce _ hbl
      clear hce
      obtain ⟨f, rfl⟩ : ∃ f', gk = f' + 1 := ⟨gk - 1, by omega⟩
      obtain ⟨x, hx⟩ : ∃ x, x = l.getD k 0 := ⟨_, rfl⟩
      rw [← hx] at hce2
      have HX := Lib.hid hx
      clear hx hown hbl hR
      by_cases h32 : x = 32
      · have HT : Hid (R = preT (ps.map Prod.fst) (cutF l f (k + 1))) := by unfold Hid; rw [HRR.out, cutF_blank hkl (by rw [← HX.out]; exact .inl h32)]
        subst h32
        go_wp2
        go_roundg f
        case measure => omega
        case rel => exact ⟨k + 1, ps, by omega, by omega, by go_num, by omega, HOWN.out, HBL.out, HT.out⟩
      have e32 : (x == 32) = false := by simpa using h32
      by_cases h9 : x = 9
      · have HT : Hid (R = preT (ps.map Prod.fst) (cutF l f (k + 1))) := by unfold Hid; rw [HRR.out, cutF_blank hkl (by rw [← HX.out]; exact .inr (.inl h9))]
        subst h9
        go_wp2
        go_roundg f
        case measure => omega
        case rel => exact ⟨k + 1, ps, by omega, by omega, by go_num, by omega, HOWN.out, HBL.out, HT.out⟩
      have e9 : (x == 9) = false := by simpa using h9
      by_cases h13 : x = 13
      · have HT : Hid (R = preT (ps.map Prod.fst) (cutF l f (k + 1))) := by unfold Hid; rw [HRR.out, cutF_blank hkl (by rw [← HX.out]; exact .inr (.inr h13))]
        subst h13
        go_wp2
        go_roundg f
        case measure => omega
        case rel => exact ⟨k + 1, ps, by omega, by omega, by go_num, by omega, HOWN.out, HBL.out, HT.out⟩
      have e13 : (x == 13) = false := by simpa using h13
      have hnb : ¬ (l.getD k 0 = 32 ∨ l.getD k 0 = 9 ∨ l.getD k 0 = 13) := by rw [← HX.out]; omega
      have HNB := Lib.hid hnb
      clear hnb h32 h9 h13
      by_cases h9053 : x = 9053
      · have HT : Hid (R = preT (ps.map Prod.fst) (if lineTo l k < l.length then cutF l f (lineTo l k) else .ok [])) := by unfold Hid; rw [HRR.out, cutF_note hkl (by rw [← HX.out]; exact h9053)]
        have hle := lineTo_ge l k
        have hle2 := lineTo_le (l := l) (p := k) (by omega)
        have hk1 : k + 1 ≤ lineTo l k := by
          have := lineTo_no hkl (by rw [← HX.out]; omega)
          rw [← this]; exact lineTo_ge l (k + 1)
        have HLO : Hid (∀ j, j < l.length → ¬ l.getD j 0 = 10 → lineTo l (j + 1) = lineTo l j) := fun j h h2 => lineTo_no h h2
        have HLN : Hid (∀ j, j < l.length → l.getD j 0 = 10 → lineTo l j = j) := fun j h h2 => lineTo_nl h h2
        have HLE : Hid (∀ j, l.length ≤ j → lineTo l j = j) := fun j h => lineTo_end h
        obtain ⟨T, hT⟩ : ∃ T, T = lineTo l k := ⟨_, rfl⟩
        rw [← hT] at HT hle hle2 hk1
        have HTT : Hid (lineTo l k = T) := hT.symm
        subst h9053
        clear hT
        go_wp2
        go_loopg [5] n (fun g2 p wx => ∃ j : Nat, k ≤ j ∧ j ≤ n ∧ n ≤ j + g2 ∧ p = .int .i64 (j : Int) ∧ wx = wr ∧ Hid (lineTo l j = T))
        case atStart => exact ⟨k, Nat.le_refl _, by omega, by omega, rfl, rfl, HTT.out⟩
        case round =>
          obtain ⟨j, hkj, hjn, hjg, rfl, rfl, hjT⟩ := hrel
          by_cases hj : j < n
          · have hjl : j < l.length := by have := HN.out; omega
            obtain ⟨b', o', hA, hce⟩ := HC.out j hjl
            obtain ⟨rfl, rfl⟩ : b = b' ∧ o = o' := by simpa using hA
            have hce3 := hce _ HBL.out
            clear hce hA
            obtain ⟨y, hy⟩ : ∃ y, y = l.getD j 0 := ⟨_, rfl⟩
            rw [← hy] at hce3
            have HY := Lib.hid hy
            clear hy
            by_cases h10 : y = 10
            · have HE : Hid (j = T) := (HLN.out j hjl (by rw [← HY.out]; exact h10)).symm.trans hjT.out
              have HT2 : Hid (R = preT (ps.map Prod.fst) (cutF l f j)) := by unfold Hid; rw [HT.out, if_pos (by have := HE.out; omega), HE.out]
              have hk2 : k + 1 ≤ j := by have := HE.out; omega
              subst h10
              clear hjT
              go_wp2
              go_roundg f
              case measure => omega
              case rel => exact ⟨j, ps, by omega, by omega, rfl, by omega, HOWN.out, HBL.out, HT2.out⟩
            · have HK : Hid (lineTo l (j + 1) = T) := (HLO.out j hjl (by rw [← HY.out]; exact h10)).trans hjT.out
              have e10 : (y == 10) = false := by simpa using h10
              obtain ⟨g3, rfl⟩ : ∃ g3, gk = g3 + 1 := ⟨gk - 1, by omega⟩
              clear hjT h10
              go_wp2
              go_roundg g3
              case measure => omega
              case rel => exact ⟨j + 1, by omega, by omega, by omega, by go_num, rfl, HK.out⟩
          · have HE : Hid (j = T) := (HLE.out j (by have := HN.out; omega)).symm.trans hjT.out
            have HT2 : Hid (R = .ok (ps.map Prod.fst)) := by unfold Hid; rw [HT.out, if_neg (by have := HE.out; have := HN.out; omega), preT_ok, List.append_nil]
            clear hjT
            go_wp2
            rw [Exit.noGoto_ret]
            go_ret2
            exact ⟨.ok HT2.out rfl HOWN.out, HBL.out⟩
      have e9053 : (x == 9053) = false := by simpa using h9053
      have HCW : Hid (∀ t e, wordS l k = some (t, e) → R = preT (ps.map Prod.fst ++ [t]) (cutF l f e)) := fun t e h => by rw [HRR.out, cutF_word hkl HNB.out (by rw [← HX.out]; exact h9053) h, preT_cons]
      have HCB : Hid (wordS l k = none → R = .error k) := fun h => by rw [HRR.out, cutF_bad hkl HNB.out (by rw [← HX.out]; exact h9053) h, preT_err]
      have HBD : Hid (∀ t e, wordS l k = some (t, e) → k < e ∧ e ≤ l.length) := fun t e h => wordS_bd hkl h
      clear h9053
      go_wp2_with fail
      refine (HWD.out k _ hkl HBL.out).mono ?_
      rintro e w1 ⟨ht, hb1⟩
      have HB1 := Lib.hid hb1
      clear hb1
      have hz1 := HB1.out.size
      rcases ht.open_ with ⟨hw, rfl⟩ | ⟨t, e2, a, m, cv, hw, rfl, ho⟩
      · have HT := Lib.hid (HCB.out hw)
        clear ht hw HCW HCB HBD
        have HB2 : Hid (Below w.heap.size w w1) := HBL.out.trans (HB1.out.mono hsz)
        have HB3 : Hid (Below w.heap.size w (w1.alloc (.cells #[.int .i64 0, .int .i64 0, .float .f64 0, .slice none 0 0, .string ⟨#[]⟩, .int .i32 0] 136))) := HB2.out.alloc (by omega) _
        simp only [tok0V]
        go_wp2_with fail
        refine (raised_walk 20 k (by omega) _).mono ?_
        rintro e w2 ⟨v2, rfl, hr2, hb2⟩
        have HR2 := Lib.hid hr2
        have HB4 : Hid (Below w.heap.size w w2) := HB3.out.trans (hb2.mono HB3.out.size)
        clear hr2 hb2
        go_wp2
        rw [Exit.noGoto_ret]
        go_ret2
        exact ⟨.err HT.out HR2.out, HB4.out⟩
      · have HT := Lib.hid (HCW.out _ _ hw)
        have hbd := HBD.out _ _ hw
        have he2 : e2 ≤ n := by have := HN.out; omega
        have HO := Lib.hid ho
        clear ht hw HCW HCB HBD ho
        have HB2 : Hid (Below w.heap.size w w1) := HBL.out.trans (HB1.out.mono hsz)
        have HBA : Hid (∀ o1, Below w.heap.size w (w1.alloc o1)) := fun o1 => HB2.out.alloc (by omega) o1
        have HOW2 : Hid (∀ o1, ToksOwn (w1.alloc o1) w.heap.size _ ps) := fun o1 => (HOWN.out.below HB1.out).below ((Below.refl _ w1).alloc (Nat.le_refl _) o1)
        have HOT : Hid (∀ o1, OwnR (w1.alloc o1) w.heap.size (.slice a m cv) t.text) := fun o1 => (HO.out.lower hsz).below ((Below.refl _ w1).alloc (Nat.le_refl _) o1)
        have HAP := Lib.hid (apart_of HOWN.out HO.out)
        have HPL : Hid (ps.length ≤ 1000000) := by unfold Hid; omega
        have HHB : Hid (w.heap.size ≤ w1.heap.size + 1) := by unfold Hid; omega
        simp only [tokV]
        go_wp2_with (at_builtin; refine wpList_pushT rfl (.tmp 51) (.tmp 53) rfl w.heap.size _ ps (by rfl) (HOW2.out _) (t, .slice a m cv) rfl (HOT.out _) HAP.out _ (by rfl) (by simp) HPL.out (by simp; exact HHB.out) ?_; intro v2 w2 ho2 hb2; have HO2 := Lib.hid ho2; have HB3 := Lib.hid (hb2 w (HBA.out _)); clear ho2 hb2)
        go_roundg f
        case measure => omega
        case rel => exact ⟨e2, ps ++ [(t, .slice a m cv)], by omega, by omega, rfl, by simp; omega, HO2.out, HB3.out, by rw [List.map_append]; exact HT.out⟩
    · have HT : Hid (R = .ok (ps.map Prod.fst)) := by unfold Hid; rw [HRR.out, cutF_end (by have := HN.out; omega), preT_ok, List.append_nil]
      clear hown hbl hR
      go_wp2
      rw [Exit.noGoto_ret]
      go_ret2
      exact ⟨.ok HT.out rfl HOWN.out, HBL.out⟩
end Go.Proofs.YtnhnaallalgefaaDoor
