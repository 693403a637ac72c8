/- The walks of chapter 7: the reference's check, noughts. -/
import Derived.Test.YtnjpaanjgbfbaaaGreatJ14
namespace Go.Proofs.YtnjpaanjgbfbaaaGreat
set_option linter.unusedVariables false
set_option linter.unusedSimpArgs false
open Go.RowKit

theorem place_not (x p : Int) : P.place x p = false ↔ ¬ (x = 0 ∨ (2 ≤ x ∧ x ≤ p - 1)) := by
  rw [← P.place_iff]; simp
theorem chk_one {x : P.Sup} (h : ¬ x.may = true) : x.chk = 1 := by simp [P.Sup.chk, h]
theorem chk_zero {x : P.Sup} (h : x.may = true) : x.chk = 0 := by simp [P.Sup.chk, h]
set_option maxRecDepth 100000 in
set_option maxHeartbeats 6400000 in
theorem rchk_any (x : P.Sup) (w : World) : Calls Tryz.prog 39 #[supV x] w fun e w' => e = .returned (.int .i64 x.chk) ∧ Below w.heap.size w w' := by
  obtain ⟨g, p, r, h, b, l, s, f⟩ := x
  unfold supV
  simp only
  rcases d1 : decide (g ≥ 1) with _ | _
  · rw [chk_one (by
      rw [P.Sup.may_iff]
      simp only [decide_eq_true_eq, decide_eq_false_iff_not, beq_iff_eq, beq_eq_false_iff_ne, P.place_iff, place_not] at *
      omega)]
    go_enter Tryz.func39, Tryz.ntmps39
    go_wp2_with
      (go_at_call 52; refine (root_any _ _ _ _ (by assumption)).mono ?_; intro e w1 h; have h1 := h.1; have h2 := h.2; clear h; subst h1; subst h2)
    go_ret
    exact ⟨rfl, (((Below.refl _ w).alloc (Nat.le_refl _) _))⟩
  rcases d2 : decide (g ≤ 1152921504606846976) with _ | _
  · rw [chk_one (by
      rw [P.Sup.may_iff]
      simp only [decide_eq_true_eq, decide_eq_false_iff_not, beq_iff_eq, beq_eq_false_iff_ne, P.place_iff, place_not] at *
      omega)]
    go_enter Tryz.func39, Tryz.ntmps39
    go_wp2_with
      (go_at_call 52; refine (root_any _ _ _ _ (by assumption)).mono ?_; intro e w1 h; have h1 := h.1; have h2 := h.2; clear h; subst h1; subst h2)
    go_ret
    exact ⟨rfl, (((Below.refl _ w).alloc (Nat.le_refl _) _))⟩
  rcases d3 : decide (p ≥ 8) with _ | _
  · rw [chk_one (by
      rw [P.Sup.may_iff]
      simp only [decide_eq_true_eq, decide_eq_false_iff_not, beq_iff_eq, beq_eq_false_iff_ne, P.place_iff, place_not] at *
      omega)]
    go_enter Tryz.func39, Tryz.ntmps39
    go_wp2_with
      (go_at_call 52; refine (root_any _ _ _ _ (by assumption)).mono ?_; intro e w1 h; have h1 := h.1; have h2 := h.2; clear h; subst h1; subst h2)
    go_ret
    exact ⟨rfl, (((Below.refl _ w).alloc (Nat.le_refl _) _))⟩
  rcases d4 : decide (p ≤ 4096) with _ | _
  · rw [chk_one (by
      rw [P.Sup.may_iff]
      simp only [decide_eq_true_eq, decide_eq_false_iff_not, beq_iff_eq, beq_eq_false_iff_ne, P.place_iff, place_not] at *
      omega)]
    go_enter Tryz.func39, Tryz.ntmps39
    go_wp2_with
      (go_at_call 52; refine (root_any _ _ _ _ (by assumption)).mono ?_; intro e w1 h; have h1 := h.1; have h2 := h.2; clear h; subst h1; subst h2)
    go_ret
    exact ⟨rfl, (((Below.refl _ w).alloc (Nat.le_refl _) _))⟩
  rcases v1 : P.place r p with _ | _
  · rw [chk_one (by
      rw [P.Sup.may_iff]
      simp only [decide_eq_true_eq, decide_eq_false_iff_not, beq_iff_eq, beq_eq_false_iff_ne, P.place_iff, place_not] at *
      omega)]
    go_enter Tryz.func39, Tryz.ntmps39
    go_wp2_with
      (go_at_call 52; refine (root_any _ _ _ _ (by assumption)).mono ?_; intro e w1 h; have h1 := h.1; have h2 := h.2; clear h; subst h1; subst h2)
    go_ret
    exact ⟨rfl, (((Below.refl _ w).alloc (Nat.le_refl _) _))⟩
  rcases v2 : P.place s p with _ | _
  · rw [chk_one (by
      rw [P.Sup.may_iff]
      simp only [decide_eq_true_eq, decide_eq_false_iff_not, beq_iff_eq, beq_eq_false_iff_ne, P.place_iff, place_not] at *
      omega)]
    go_enter Tryz.func39, Tryz.ntmps39
    go_wp2_with
      (go_at_call 52; refine (root_any _ _ _ _ (by assumption)).mono ?_; intro e w1 h; have h1 := h.1; have h2 := h.2; clear h; subst h1; subst h2)
    go_ret
    exact ⟨rfl, (((Below.refl _ w).alloc (Nat.le_refl _) _))⟩
  rcases v3 : P.place f p with _ | _
  · rw [chk_one (by
      rw [P.Sup.may_iff]
      simp only [decide_eq_true_eq, decide_eq_false_iff_not, beq_iff_eq, beq_eq_false_iff_ne, P.place_iff, place_not] at *
      omega)]
    go_enter Tryz.func39, Tryz.ntmps39
    go_wp2_with
      (go_at_call 52; refine (root_any _ _ _ _ (by assumption)).mono ?_; intro e w1 h; have h1 := h.1; have h2 := h.2; clear h; subst h1; subst h2)
    go_ret
    exact ⟨rfl, (((Below.refl _ w).alloc (Nat.le_refl _) _))⟩
  rcases d5 : decide (h ≥ 0) with _ | _
  · rw [chk_one (by
      rw [P.Sup.may_iff]
      simp only [decide_eq_true_eq, decide_eq_false_iff_not, beq_iff_eq, beq_eq_false_iff_ne, P.place_iff, place_not] at *
      omega)]
    go_enter Tryz.func39, Tryz.ntmps39
    go_wp2_with
      (go_at_call 52; refine (root_any _ _ _ _ (by assumption)).mono ?_; intro e w1 h; have h1 := h.1; have h2 := h.2; clear h; subst h1; subst h2)
    go_ret
    exact ⟨rfl, (((Below.refl _ w).alloc (Nat.le_refl _) _))⟩
  rcases d6 : decide (h ≤ 32) with _ | _
  · rw [chk_one (by
      rw [P.Sup.may_iff]
      simp only [decide_eq_true_eq, decide_eq_false_iff_not, beq_iff_eq, beq_eq_false_iff_ne, P.place_iff, place_not] at *
      omega)]
    go_enter Tryz.func39, Tryz.ntmps39
    go_wp2_with
      (go_at_call 52; refine (root_any _ _ _ _ (by assumption)).mono ?_; intro e w1 h; have h1 := h.1; have h2 := h.2; clear h; subst h1; subst h2)
    go_ret
    exact ⟨rfl, (((Below.refl _ w).alloc (Nat.le_refl _) _))⟩
  rcases d7 : (h == 0) with _ | _ <;> rcases d8 : (r == 0) with _ | _
  case false.true =>
    rw [chk_one (by
      rw [P.Sup.may_iff]
      simp only [decide_eq_true_eq, decide_eq_false_iff_not, beq_iff_eq, beq_eq_false_iff_ne, P.place_iff, place_not] at *
      omega)]
    go_enter Tryz.func39, Tryz.ntmps39
    go_wp2_with
      (go_at_call 52; refine (root_any _ _ _ _ (by assumption)).mono ?_; intro e w1 h; have h1 := h.1; have h2 := h.2; clear h; subst h1; subst h2)
    go_ret
    exact ⟨rfl, (((Below.refl _ w).alloc (Nat.le_refl _) _))⟩
  case true.false =>
    rw [chk_one (by
      rw [P.Sup.may_iff]
      simp only [decide_eq_true_eq, decide_eq_false_iff_not, beq_iff_eq, beq_eq_false_iff_ne, P.place_iff, place_not] at *
      omega)]
    go_enter Tryz.func39, Tryz.ntmps39
    go_wp2_with
      (go_at_call 52; refine (root_any _ _ _ _ (by assumption)).mono ?_; intro e w1 h; have h1 := h.1; have h2 := h.2; clear h; subst h1; subst h2)
    go_ret
    exact ⟨rfl, (((Below.refl _ w).alloc (Nat.le_refl _) _))⟩
  all_goals
    rcases e1 : decide (b ≥ 0) with _ | _
    · rw [chk_one (by
        rw [P.Sup.may_iff]
        simp only [decide_eq_true_eq, decide_eq_false_iff_not, beq_iff_eq, beq_eq_false_iff_ne, P.place_iff, place_not] at *
        omega)]
      go_enter Tryz.func39, Tryz.ntmps39
      go_wp2_with
        (go_at_call 52; refine (root_any _ _ _ _ (by assumption)).mono ?_; intro e w1 h; have h1 := h.1; have h2 := h.2; clear h; subst h1; subst h2)
      go_ret
      exact ⟨rfl, (((Below.refl _ w).alloc (Nat.le_refl _) _))⟩
    rcases e2 : decide (b ≤ 1048576) with _ | _
    · rw [chk_one (by
        rw [P.Sup.may_iff]
        simp only [decide_eq_true_eq, decide_eq_false_iff_not, beq_iff_eq, beq_eq_false_iff_ne, P.place_iff, place_not] at *
        omega)]
      go_enter Tryz.func39, Tryz.ntmps39
      go_wp2_with
        (go_at_call 52; refine (root_any _ _ _ _ (by assumption)).mono ?_; intro e w1 h; have h1 := h.1; have h2 := h.2; clear h; subst h1; subst h2)
      go_ret
      exact ⟨rfl, (((Below.refl _ w).alloc (Nat.le_refl _) _))⟩
    rcases e3 : decide (l ≥ 0) with _ | _
    · rw [chk_one (by
        rw [P.Sup.may_iff]
        simp only [decide_eq_true_eq, decide_eq_false_iff_not, beq_iff_eq, beq_eq_false_iff_ne, P.place_iff, place_not] at *
        omega)]
      go_enter Tryz.func39, Tryz.ntmps39
      go_wp2_with
        (go_at_call 52; refine (root_any _ _ _ _ (by assumption)).mono ?_; intro e w1 h; have h1 := h.1; have h2 := h.2; clear h; subst h1; subst h2)
      go_ret
      exact ⟨rfl, (((Below.refl _ w).alloc (Nat.le_refl _) _))⟩
    rcases e4 : decide (l ≤ b) with _ | _
    · rw [chk_one (by
        rw [P.Sup.may_iff]
        simp only [decide_eq_true_eq, decide_eq_false_iff_not, beq_iff_eq, beq_eq_false_iff_ne, P.place_iff, place_not] at *
        omega)]
      go_enter Tryz.func39, Tryz.ntmps39
      go_wp2_with
        (go_at_call 52; refine (root_any _ _ _ _ (by assumption)).mono ?_; intro e w1 h; have h1 := h.1; have h2 := h.2; clear h; subst h1; subst h2)
      go_ret
      exact ⟨rfl, (((Below.refl _ w).alloc (Nat.le_refl _) _))⟩
    rcases d9 : (b == 0) with _ | _
    · first
        | rw [chk_one (by
            rw [P.Sup.may_iff]
            simp only [decide_eq_true_eq, decide_eq_false_iff_not, beq_iff_eq, beq_eq_false_iff_ne, P.place_iff, place_not] at *
            omega)]
        | rw [chk_zero (by
            rw [P.Sup.may_iff]
            simp only [decide_eq_true_eq, decide_eq_false_iff_not, beq_iff_eq, beq_eq_false_iff_ne, P.place_iff, place_not] at *
            omega)]
      go_enter Tryz.func39, Tryz.ntmps39
      go_wp2_with
        (go_at_call 52; refine (root_any _ _ _ _ (by assumption)).mono ?_; intro e w1 h; have h1 := h.1; have h2 := h.2; clear h; subst h1; subst h2)
      go_ret
      exact ⟨rfl, (((Below.refl _ w).alloc (Nat.le_refl _) _))⟩
    · first
        | rw [chk_one (by
            rw [P.Sup.may_iff]
            simp only [decide_eq_true_eq, decide_eq_false_iff_not, beq_iff_eq, beq_eq_false_iff_ne, P.place_iff, place_not] at *
            omega)]
        | rw [chk_zero (by
            rw [P.Sup.may_iff]
            simp only [decide_eq_true_eq, decide_eq_false_iff_not, beq_iff_eq, beq_eq_false_iff_ne, P.place_iff, place_not] at *
            omega)]
      go_enter Tryz.func39, Tryz.ntmps39
      go_wp2_with
        (go_at_call 52; refine (root_any _ _ _ _ (by assumption)).mono ?_; intro e w1 h; have h1 := h.1; have h2 := h.2; clear h; subst h1; subst h2)
      go_ret
      exact ⟨rfl, (((Below.refl _ w).alloc (Nat.le_refl _) _))⟩
end Go.Proofs.YtnjpaanjgbfbaaaGreat
