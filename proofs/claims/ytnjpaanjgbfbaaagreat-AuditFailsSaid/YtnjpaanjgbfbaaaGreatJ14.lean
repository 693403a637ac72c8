/- The walks of chapter 7: may a superblock be? -/
import Derived.Test.YtnjpaanjgbfbaaaGreatJ11
import Derived.Test.YtnjpaanjgbfbaaaGreatJ05
namespace Go.Proofs.YtnjpaanjgbfbaaaGreat
set_option linter.unusedVariables false
set_option linter.unusedSimpArgs false
open Go.RowKit

def supV (x : P.Sup) : Value := .agg #[.int .i64 x.g, .int .i64 x.p, .int .i64 x.r, .int .i64 x.h, .int .i64 x.b, .int .i64 x.l, .int .i64 x.s, .int .i64 x.f]

theorem between_any (x a b : Int) (v : Bool) (w : World) (h : P.inR x a b = v) :
    Calls Tryz.prog 89 #[.int .i64 x, .int .i64 a, .int .i64 b] w fun e w' => e = .returned (.bool v) ∧ w' = w := by
  subst h
  by_cases h1 : a ≤ x
  · have d1 : decide (x ≥ a) = true := decide_eq_true h1
    have hv : P.inR x a b = decide (x ≤ b) := by simp [P.inR, h1]
    rw [hv]
    go_enter Tryz.func89, Tryz.ntmps89
    go_wp2
    go_ret
    exact ⟨by first | rfl | simp, rfl⟩
  · have d1 : decide (x ≥ a) = false := decide_eq_false h1
    have hv : P.inR x a b = false := by simp [P.inR, h1]
    rw [hv]
    go_enter Tryz.func89, Tryz.ntmps89
    go_wp2
    go_ret
    exact ⟨by first | rfl | simp, rfl⟩

theorem root_any (x p : Int) (v : Bool) (w : World) (h : P.place x p = v) :
    Calls Tryz.prog 52 #[.int .i64 x, .int .i64 p] w fun e w' => e = .returned (.bool v) ∧ w' = w := by
  subst h
  have hv : P.place x p = true ∨ P.place x p = false := by cases P.place x p <;> simp
  rcases hv with hv | hv
  all_goals
    have hq := hv
    rw [hv]
    simp only [P.place, P.inR, Bool.or_eq_true, Bool.or_eq_false_iff, Bool.and_eq_true, Bool.and_eq_false_iff, decide_eq_true_eq, decide_eq_false_iff_not] at hq
    clear hv
    go_enter Tryz.func52, Tryz.ntmps52
    go_wp2
    all_goals
      go_ret
      refine ⟨?_, rfl⟩
      first
        | rfl
        | (simp; omega)
        | (exfalso; omega)

theorem clo_any (x p : Int) (g : Nat) (v : Bool) (w : World) (h : P.place x p = v) (hp : 1 ≤ p ∧ p ≤ 9223372036854775807) (hc : w.cell? ⟨g, 1, none⟩ = some (.int .i64 p)) :
    Calls Tryz.prog 88 #[.int .i64 x, .pointer (some ⟨g, 0, none⟩)] w fun e w' => e = .returned (.bool v) ∧ w' = w := by
  have hw : IntKind.i64.wrap (p - 1) = p - 1 := IntWalk.i64_in _ (by omega)
  by_cases h1 : x = 0
  · have d1 : (x == 0) = true := by simpa using h1
    have hv : v = true := by rw [← h]; simp [P.place, h1]
    subst hv
    clear h
    go_enter Tryz.func88, Tryz.ntmps88
    go_wp2
    go_ret
    exact ⟨rfl, rfl⟩
  · have d1 : (x == 0) = false := by simpa using h1
    have hv : P.inR x 2 (p - 1) = v := by rw [← h]; simp [P.place, h1]
    clear h
    go_enter Tryz.func88, Tryz.ntmps88
    go_wp2_with (go_at_call 89; first | rw [hw] | skip; refine (between_any _ _ _ _ _ hv).mono ?_; rintro e w1 ⟨rfl, rfl⟩)
    go_ret
    exact ⟨by first | rfl | (cases v <;> rfl), rfl⟩

theorem deq0 (x : Int) : decide (x = 0) = (x == 0) := by by_cases h : x = 0 <;> simp [h]
set_option maxRecDepth 100000 in
set_option maxHeartbeats 3200000 in
theorem chk_any (x : P.Sup) (w : World) : Calls Tryz.prog 76 #[supV x] w fun e w' => e = .returned (.int .i64 x.chk) ∧ Below w.heap.size w w' := by
  obtain ⟨g, p, r, h, b, l, s, f⟩ := x
  unfold supV
  simp only
  have hbA : Below w.heap.size w (w.alloc (.cells #[.int .i64 g, .int .i64 p, .int .i64 r, .int .i64 h, .int .i64 b, .int .i64 l, .int .i64 s, .int .i64 f] 25)) := (Below.refl _ w).alloc (Nat.le_refl _) _
  have hB0 : (w.alloc (.cells #[.int .i64 g, .int .i64 p, .int .i64 r, .int .i64 h, .int .i64 b, .int .i64 l, .int .i64 s, .int .i64 f] 25)).heap[w.heap.size]? = _ := alloc_new _ _ _ rfl
  rcases v1 : P.inR g 1 1152921504606846976 with _ | _
  · simp only [P.Sup.chk, P.Sup.may, deq0, *, Bool.false_and, Bool.and_false, Bool.and_true, Bool.true_and, Bool.not_true, Bool.not_false, if_true, if_false, beq_self_eq_true, Bool.false_eq_true]
    try simp only [reduceIte]
    go_enter Tryz.func76, Tryz.ntmps76
    go_wp2_with (first
      | (go_at_call 89; refine (between_any _ _ _ _ _ (by assumption)).mono ?_; intro e w1 h; have h1 := h.1; have h2 := h.2; clear h; subst h1; subst h2)
      | (go_at_call 88; refine (clo_any _ _ _ _ _ (by assumption) (by assumption) (by assumption)).mono ?_; intro e w1 h; have h1 := h.1; have h2 := h.2; clear h; subst h1; subst h2))
    go_ret
    exact ⟨rfl, (((Below.refl _ w).alloc (Nat.le_refl _) _))⟩
  rcases v2 : P.inR p 8 4096 with _ | _
  · simp only [P.Sup.chk, P.Sup.may, deq0, *, Bool.false_and, Bool.and_false, Bool.and_true, Bool.true_and, Bool.not_true, Bool.not_false, if_true, if_false, beq_self_eq_true, Bool.false_eq_true]
    try simp only [reduceIte]
    go_enter Tryz.func76, Tryz.ntmps76
    go_wp2_with (first
      | (go_at_call 89; refine (between_any _ _ _ _ _ (by assumption)).mono ?_; intro e w1 h; have h1 := h.1; have h2 := h.2; clear h; subst h1; subst h2)
      | (go_at_call 88; refine (clo_any _ _ _ _ _ (by assumption) (by assumption) (by assumption)).mono ?_; intro e w1 h; have h1 := h.1; have h2 := h.2; clear h; subst h1; subst h2))
    go_ret
    exact ⟨rfl, (((Below.refl _ w).alloc (Nat.le_refl _) _))⟩
  have hpb : 1 ≤ p ∧ p ≤ 9223372036854775807 := by have := (P.inR_iff _ _ _).1 v2; omega
  have hc1 : (w.alloc (.cells #[.int .i64 g, .int .i64 p, .int .i64 r, .int .i64 h, .int .i64 b, .int .i64 l, .int .i64 s, .int .i64 f] 25)).cell? ⟨w.heap.size, 1, none⟩ = some (.int .i64 p) := cell_blk hB0 1
  rcases v3 : P.place r p with _ | _
  · simp only [P.Sup.chk, P.Sup.may, deq0, *, Bool.false_and, Bool.and_false, Bool.and_true, Bool.true_and, Bool.not_true, Bool.not_false, if_true, if_false, beq_self_eq_true, Bool.false_eq_true]
    try simp only [reduceIte]
    go_enter Tryz.func76, Tryz.ntmps76
    go_wp2_with (first
      | (go_at_call 89; refine (between_any _ _ _ _ _ (by assumption)).mono ?_; intro e w1 h; have h1 := h.1; have h2 := h.2; clear h; subst h1; subst h2)
      | (go_at_call 88; refine (clo_any _ _ _ _ _ (by assumption) (by assumption) (by assumption)).mono ?_; intro e w1 h; have h1 := h.1; have h2 := h.2; clear h; subst h1; subst h2))
    go_ret
    exact ⟨rfl, (((Below.refl _ w).alloc (Nat.le_refl _) _))⟩
  rcases v4 : P.place s p with _ | _
  · simp only [P.Sup.chk, P.Sup.may, deq0, *, Bool.false_and, Bool.and_false, Bool.and_true, Bool.true_and, Bool.not_true, Bool.not_false, if_true, if_false, beq_self_eq_true, Bool.false_eq_true]
    try simp only [reduceIte]
    go_enter Tryz.func76, Tryz.ntmps76
    go_wp2_with (first
      | (go_at_call 89; refine (between_any _ _ _ _ _ (by assumption)).mono ?_; intro e w1 h; have h1 := h.1; have h2 := h.2; clear h; subst h1; subst h2)
      | (go_at_call 88; refine (clo_any _ _ _ _ _ (by assumption) (by assumption) (by assumption)).mono ?_; intro e w1 h; have h1 := h.1; have h2 := h.2; clear h; subst h1; subst h2))
    go_ret
    exact ⟨rfl, (((Below.refl _ w).alloc (Nat.le_refl _) _))⟩
  rcases v5 : P.place f p with _ | _
  · simp only [P.Sup.chk, P.Sup.may, deq0, *, Bool.false_and, Bool.and_false, Bool.and_true, Bool.true_and, Bool.not_true, Bool.not_false, if_true, if_false, beq_self_eq_true, Bool.false_eq_true]
    try simp only [reduceIte]
    go_enter Tryz.func76, Tryz.ntmps76
    go_wp2_with (first
      | (go_at_call 89; refine (between_any _ _ _ _ _ (by assumption)).mono ?_; intro e w1 h; have h1 := h.1; have h2 := h.2; clear h; subst h1; subst h2)
      | (go_at_call 88; refine (clo_any _ _ _ _ _ (by assumption) (by assumption) (by assumption)).mono ?_; intro e w1 h; have h1 := h.1; have h2 := h.2; clear h; subst h1; subst h2))
    go_ret
    exact ⟨rfl, (((Below.refl _ w).alloc (Nat.le_refl _) _))⟩
  rcases v6 : P.inR h 0 32 with _ | _
  · simp only [P.Sup.chk, P.Sup.may, deq0, *, Bool.false_and, Bool.and_false, Bool.and_true, Bool.true_and, Bool.not_true, Bool.not_false, if_true, if_false, beq_self_eq_true, Bool.false_eq_true]
    try simp only [reduceIte]
    go_enter Tryz.func76, Tryz.ntmps76
    go_wp2_with (first
      | (go_at_call 89; refine (between_any _ _ _ _ _ (by assumption)).mono ?_; intro e w1 h; have h1 := h.1; have h2 := h.2; clear h; subst h1; subst h2)
      | (go_at_call 88; refine (clo_any _ _ _ _ _ (by assumption) (by assumption) (by assumption)).mono ?_; intro e w1 h; have h1 := h.1; have h2 := h.2; clear h; subst h1; subst h2))
    go_ret
    exact ⟨rfl, (((Below.refl _ w).alloc (Nat.le_refl _) _))⟩
  rcases d7 : (h == 0) with _ | _ <;> rcases d8 : (r == 0) with _ | _
  case false.true =>
    simp only [P.Sup.chk, P.Sup.may, deq0, *, Bool.false_and, Bool.and_false, Bool.and_true, Bool.true_and, Bool.not_true, Bool.not_false, if_true, if_false, beq_self_eq_true, Bool.false_eq_true]
    try simp only [reduceIte]
    go_enter Tryz.func76, Tryz.ntmps76
    go_wp2_with (first
      | (go_at_call 89; refine (between_any _ _ _ _ _ (by assumption)).mono ?_; intro e w1 h; have h1 := h.1; have h2 := h.2; clear h; subst h1; subst h2)
      | (go_at_call 88; refine (clo_any _ _ _ _ _ (by assumption) (by assumption) (by assumption)).mono ?_; intro e w1 h; have h1 := h.1; have h2 := h.2; clear h; subst h1; subst h2))
    go_ret
    exact ⟨rfl, (((Below.refl _ w).alloc (Nat.le_refl _) _))⟩
  case true.false =>
    simp only [P.Sup.chk, P.Sup.may, deq0, *, Bool.false_and, Bool.and_false, Bool.and_true, Bool.true_and, Bool.not_true, Bool.not_false, if_true, if_false, beq_self_eq_true, Bool.false_eq_true]
    try simp only [reduceIte]
    go_enter Tryz.func76, Tryz.ntmps76
    go_wp2_with (first
      | (go_at_call 89; refine (between_any _ _ _ _ _ (by assumption)).mono ?_; intro e w1 h; have h1 := h.1; have h2 := h.2; clear h; subst h1; subst h2)
      | (go_at_call 88; refine (clo_any _ _ _ _ _ (by assumption) (by assumption) (by assumption)).mono ?_; intro e w1 h; have h1 := h.1; have h2 := h.2; clear h; subst h1; subst h2))
    go_ret
    exact ⟨rfl, (((Below.refl _ w).alloc (Nat.le_refl _) _))⟩
  all_goals
    rcases v8 : P.inR b 0 1048576 with _ | _
    · simp only [P.Sup.chk, P.Sup.may, deq0, *, Bool.false_and, Bool.and_false, Bool.and_true, Bool.true_and, Bool.not_true, Bool.not_false, if_true, if_false, beq_self_eq_true, Bool.false_eq_true]
      try simp only [reduceIte]
      go_enter Tryz.func76, Tryz.ntmps76
      go_wp2_with (first
        | (go_at_call 89; refine (between_any _ _ _ _ _ (by assumption)).mono ?_; intro e w1 h; have h1 := h.1; have h2 := h.2; clear h; subst h1; subst h2)
        | (go_at_call 88; refine (clo_any _ _ _ _ _ (by assumption) (by assumption) (by assumption)).mono ?_; intro e w1 h; have h1 := h.1; have h2 := h.2; clear h; subst h1; subst h2))
      go_ret
      exact ⟨rfl, (((Below.refl _ w).alloc (Nat.le_refl _) _))⟩
    rcases v9 : P.inR l 0 b with _ | _
    · simp only [P.Sup.chk, P.Sup.may, deq0, *, Bool.false_and, Bool.and_false, Bool.and_true, Bool.true_and, Bool.not_true, Bool.not_false, if_true, if_false, beq_self_eq_true, Bool.false_eq_true]
      try simp only [reduceIte]
      go_enter Tryz.func76, Tryz.ntmps76
      go_wp2_with (first
        | (go_at_call 89; refine (between_any _ _ _ _ _ (by assumption)).mono ?_; intro e w1 h; have h1 := h.1; have h2 := h.2; clear h; subst h1; subst h2)
        | (go_at_call 88; refine (clo_any _ _ _ _ _ (by assumption) (by assumption) (by assumption)).mono ?_; intro e w1 h; have h1 := h.1; have h2 := h.2; clear h; subst h1; subst h2))
      go_ret
      exact ⟨rfl, (((Below.refl _ w).alloc (Nat.le_refl _) _))⟩
    rcases d9 : (b == 0) with _ | _
    · simp only [P.Sup.chk, P.Sup.may, deq0, *, Bool.false_and, Bool.and_false, Bool.and_true, Bool.true_and, Bool.not_true, Bool.not_false, if_true, if_false, beq_self_eq_true, Bool.false_eq_true]
      try simp only [reduceIte]
      go_enter Tryz.func76, Tryz.ntmps76
      go_wp2_with (first
        | (go_at_call 89; refine (between_any _ _ _ _ _ (by assumption)).mono ?_; intro e w1 h; have h1 := h.1; have h2 := h.2; clear h; subst h1; subst h2)
        | (go_at_call 88; refine (clo_any _ _ _ _ _ (by assumption) (by assumption) (by assumption)).mono ?_; intro e w1 h; have h1 := h.1; have h2 := h.2; clear h; subst h1; subst h2))
      go_ret
      exact ⟨rfl, (((Below.refl _ w).alloc (Nat.le_refl _) _))⟩
    · simp only [P.Sup.chk, P.Sup.may, deq0, *, Bool.false_and, Bool.and_false, Bool.and_true, Bool.true_and, Bool.not_true, Bool.not_false, if_true, if_false, beq_self_eq_true, Bool.false_eq_true]
      try simp only [reduceIte]
      go_enter Tryz.func76, Tryz.ntmps76
      go_wp2_with (first
        | (go_at_call 89; refine (between_any _ _ _ _ _ (by assumption)).mono ?_; intro e w1 h; have h1 := h.1; have h2 := h.2; clear h; subst h1; subst h2)
        | (go_at_call 88; refine (clo_any _ _ _ _ _ (by assumption) (by assumption) (by assumption)).mono ?_; intro e w1 h; have h1 := h.1; have h2 := h.2; clear h; subst h1; subst h2))
      go_ret
      exact ⟨rfl, (((Below.refl _ w).alloc (Nat.le_refl _) _))⟩
end Go.Proofs.YtnjpaanjgbfbaaaGreat
