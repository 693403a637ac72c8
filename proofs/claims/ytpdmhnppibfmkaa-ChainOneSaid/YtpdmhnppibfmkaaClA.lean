/- The walks of chapter 8: may a piece, a kid be. -/
import Derived.Test.YtpdmhnppibfmkaaGr
import Derived.Test.YtpdmhnppibfmkaaCel3
namespace Go.Proofs.Ytpdmhnppibfmkaa
set_option linter.unusedVariables false
set_option linter.unusedSimpArgs false
open Go.RowKit

def qV (x : P.Q) : Value := .agg #[.int .i64 x.a, .int .i64 x.b, .int .i64 x.c, .int .i64 x.d]
def qC (x : P.Q) : List Value := [.int .i64 x.a, .int .i64 x.b, .int .i64 x.c, .int .i64 x.d]
def qCs (l : List P.Q) : List Value := (l.map qC).flatten
theorem ret_bool {b c : Bool} (h : b = c) : Ending.returned (.bool b) = .returned (.bool c) := by rw [h]
theorem con_any (n : Int) (w : World) : Calls Try.prog 92 #[.int .i64 n] w fun e w' => e = .returned (.bool (decide (2 ≤ n ∧ n < 4096))) ∧ w' = w := by
  go_enter Try.func92, Try.ntmps92
  by_cases h1 : 2 ≤ n <;> by_cases h2 : n < 4096
  all_goals
    go_wp2
    go_ret
    exact ⟨by simp [*], rfl⟩
set_option maxRecDepth 100000 in
set_option maxHeartbeats 1600000 in
theorem rmayP_any (x : P.Q) (w : World) : Calls Try.prog 68 #[qV x] w fun e w' => e = .returned (.bool x.mayP) ∧ Below w.heap.size w w' := by
  obtain ⟨a, b, c, d⟩ := x
  unfold qV P.Q.mayP
  simp only
  obtain ⟨M, hM⟩ : ∃ M, M = decide (2 ≤ a ∧ a < 4096 ∧ 1 ≤ c ∧ c ≤ 248 ∧ 0 ≤ b ∧ b ≤ 248 - c ∧ 0 ≤ d ∧ d ≤ c) := ⟨_, rfl⟩
  rw [← hM]
  have HM := Lib.hid hM
  clear hM
  go_enter Try.func68, Try.ntmps68
  have hb0 : Below w.heap.size w (w.alloc (.cells #[.int .i64 a, .int .i64 b, .int .i64 c, .int .i64 d] 75)) := (Below.refl _ w).alloc (Nat.le_refl _) _
  go_wp2
  all_goals
    go_ret
    refine ⟨ret_bool ?_, hb0⟩
    rw [HM.out]
    first
      | (symm; apply decide_eq_true; omega)
      | (symm; apply decide_eq_false; omega)
      | (apply decide_eq_decide.2; omega)
set_option maxRecDepth 100000 in
set_option maxHeartbeats 1600000 in
theorem rmayK_any (x : P.Q) (w : World) : Calls Try.prog 80 #[qV x] w fun e w' => e = .returned (.bool x.mayK) ∧ Below w.heap.size w w' := by
  obtain ⟨a, b, c, d⟩ := x
  unfold qV P.Q.mayK
  simp only
  obtain ⟨M, hM⟩ : ∃ M, M = decide (2 ≤ a ∧ a < 4096 ∧ 1 ≤ b ∧ b ≤ c ∧ c ≤ 1048576 ∧ 0 ≤ d ∧ d ≤ c) := ⟨_, rfl⟩
  rw [← hM]
  have HM := Lib.hid hM
  clear hM
  go_enter Try.func80, Try.ntmps80
  have hb0 : Below w.heap.size w (w.alloc (.cells #[.int .i64 a, .int .i64 b, .int .i64 c, .int .i64 d] 121)) := (Below.refl _ w).alloc (Nat.le_refl _) _
  go_wp2
  all_goals
    go_ret
    refine ⟨ret_bool ?_, hb0⟩
    rw [HM.out]
    first
      | (symm; apply decide_eq_true; omega)
      | (symm; apply decide_eq_false; omega)
      | (apply decide_eq_decide.2; omega)
set_option maxRecDepth 100000 in
set_option maxHeartbeats 1600000 in
theorem mayP_any (x : P.Q) (w : World) : Calls Try.prog 66 #[qV x] w fun e w' => e = .returned (.bool x.mayP) ∧ Below w.heap.size w w' := by
  obtain ⟨a, b, c, d⟩ := x
  unfold qV P.Q.mayP
  simp only
  obtain ⟨M, hM⟩ : ∃ M, M = decide (2 ≤ a ∧ a < 4096 ∧ 1 ≤ c ∧ c ≤ 248 ∧ 0 ≤ b ∧ b ≤ 248 - c ∧ 0 ≤ d ∧ d ≤ c) := ⟨_, rfl⟩
  rw [← hM]
  have HM := Lib.hid hM
  clear hM
  go_enter Try.func66, Try.ntmps66
  have hb0 : Below w.heap.size w (w.alloc (.cells #[.int .i64 a, .int .i64 b, .int .i64 c, .int .i64 d] 75)) := (Below.refl _ w).alloc (Nat.le_refl _) _
  go_wp2_with fail
  refine (con_any a _).mono ?_
  rintro e w1 ⟨rfl, rfl⟩
  rcases hda : decide (2 ≤ a ∧ a < 4096) with _ | _
  case' false => have ha := of_decide_eq_false hda
  case' true => have ha := of_decide_eq_true hda
  all_goals
    clear hda
    go_wp2
  all_goals
    go_ret
    refine ⟨ret_bool ?_, hb0⟩
    rw [HM.out]
    first
      | (symm; apply decide_eq_true; omega)
      | (symm; apply decide_eq_false; omega)
      | (apply decide_eq_decide.2; omega)
set_option maxRecDepth 100000 in
set_option maxHeartbeats 1600000 in
theorem mayK_any (x : P.Q) (w : World) : Calls Try.prog 79 #[qV x] w fun e w' => e = .returned (.bool x.mayK) ∧ Below w.heap.size w w' := by
  obtain ⟨a, b, c, d⟩ := x
  unfold qV P.Q.mayK
  simp only
  obtain ⟨M, hM⟩ : ∃ M, M = decide (2 ≤ a ∧ a < 4096 ∧ 1 ≤ b ∧ b ≤ c ∧ c ≤ 1048576 ∧ 0 ≤ d ∧ d ≤ c) := ⟨_, rfl⟩
  rw [← hM]
  have HM := Lib.hid hM
  clear hM
  go_enter Try.func79, Try.ntmps79
  have hb0 : Below w.heap.size w (w.alloc (.cells #[.int .i64 a, .int .i64 b, .int .i64 c, .int .i64 d] 121)) := (Below.refl _ w).alloc (Nat.le_refl _) _
  go_wp2_with fail
  refine (con_any a _).mono ?_
  rintro e w1 ⟨rfl, rfl⟩
  rcases hda : decide (2 ≤ a ∧ a < 4096) with _ | _
  case' false => have ha := of_decide_eq_false hda
  case' true => have ha := of_decide_eq_true hda
  all_goals
    clear hda
    go_wp2
  all_goals
    go_ret
    refine ⟨ret_bool ?_, hb0⟩
    rw [HM.out]
    first
      | (symm; apply decide_eq_true; omega)
      | (symm; apply decide_eq_false; omega)
      | (apply decide_eq_decide.2; omega)
end Go.Proofs.Ytpdmhnppibfmkaa
