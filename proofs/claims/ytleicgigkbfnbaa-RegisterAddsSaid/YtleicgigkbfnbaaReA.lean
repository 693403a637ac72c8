/- The walks of chapter 21: own, more, small, plain, slices.Clone. -/
import Derived.Test.YtleicgigkbfnbaaReM
namespace Go.Proofs.Ytleicgigkbfnbaa
set_option linter.unusedVariables false
set_option linter.unusedSimpArgs false
open Go.RowKit

def sm (k : Nat) : Nat := if 65 ≤ k ∧ k ≤ 90 then k + 32 else k
theorem sm_lt {k : Nat} (h : k < 256) : sm k < 256 := by unfold sm; split <;> omega
def ownN (k : Nat) : Bool := decide (97 ≤ k ∧ k ≤ 122 ∨ 48 ≤ k ∧ k ≤ 57 ∨ k = 61)
theorem rbool {x y : Bool} (h : x = y) : Ending.returned (.bool x) = .returned (.bool y) := by rw [h]
theorem ru8 {x y : Int} (h : x = y) : Ending.returned (.int .u8 x) = .returned (.int .u8 y) := by rw [h]
theorem more_any (k : Nat) (w : World) : Calls Try.prog 30 #[.int .u8 k] w fun e w' => e = .returned (.bool (decide (65 ≤ k ∧ k ≤ 90))) ∧ w' = w := by
  obtain ⟨M, hM⟩ : ∃ M, M = decide (65 ≤ k ∧ k ≤ 90) := ⟨_, rfl⟩
  rw [← hM]
  have HM := Lib.hid hM
  clear hM
  go_enter Try.func30, Try.ntmps30
  by_cases h1 : (65 : Int) ≤ (k : Int) <;> by_cases h2 : (k : Int) ≤ 90
  all_goals
    go_wp2
    go_ret
    refine ⟨rbool ?_, rfl⟩
    rw [HM.out]
    first
      | (symm; apply decide_eq_true; omega)
      | (symm; apply decide_eq_false; omega)
      | (apply decide_eq_decide.2; omega)
theorem small_any (k : Nat) (w : World) (hk : k < 256) : Calls Try.prog 25 #[.int .u8 k] w fun e w' => e = .returned (.int .u8 (sm k)) ∧ w' = w := by
  have HMO := Lib.hid (fun w => more_any k w)
  unfold sm
  by_cases h : 65 ≤ k ∧ k ≤ 90
  · rw [decide_eq_true h] at HMO
    rw [if_pos h]
    go_enter Try.func25, Try.ntmps25
    go_wp2_with (go_at_call 30; refine (HMO.out _).mono ?_; rintro e w1 ⟨rfl, rfl⟩)
    go_ret
    refine ⟨ru8 ?_, rfl⟩
    omega
  · rw [decide_eq_false h] at HMO
    rw [if_neg h]
    go_enter Try.func25, Try.ntmps25
    go_wp2_with (go_at_call 30; refine (HMO.out _).mono ?_; rintro e w1 ⟨rfl, rfl⟩)
    go_ret
    exact ⟨rfl, rfl⟩
theorem plain_any (k : Nat) (w : World) : Calls Try.prog 24 #[.int .u8 k] w fun e w' => e = .returned (.bool (decide (k = 0 ∨ k = 34))) ∧ w' = w := by
  by_cases h : k = 0
  · subst h
    go_enter Try.func24, Try.ntmps24
    go_wp2
    go_ret
    exact ⟨rfl, rfl⟩
  by_cases h2 : k = 34
  · subst h2
    go_enter Try.func24, Try.ntmps24
    go_wp2
    go_ret
    exact ⟨rfl, rfl⟩
  have d1 : ((k : Int) == 0) = false := by simp; omega
  have d2 : ((k : Int) == 34) = false := by simp; omega
  rw [decide_eq_false (fun hh => hh.elim h h2)]
  clear h h2
  go_enter Try.func24, Try.ntmps24
  go_wp2
  go_ret
  exact ⟨rfl, rfl⟩
theorem own_any (k : Nat) (w : World) : Calls Try.prog 29 #[.int .u8 k] w fun e w' => e = .returned (.bool (ownN k)) ∧ w' = w := by
  obtain ⟨M, hM⟩ : ∃ M, M = ownN k := ⟨_, rfl⟩
  rw [← hM]
  unfold ownN at hM
  have HM := Lib.hid hM
  clear hM
  go_enter Try.func29, Try.ntmps29
  by_cases h1 : (97 : Int) ≤ (k : Int) <;> by_cases h2 : (k : Int) ≤ 122 <;> by_cases h3 : (48 : Int) ≤ (k : Int) <;> by_cases h4 : (k : Int) ≤ 57 <;> by_cases h5 : (k : Int) = 61
  all_goals
    first
      | (exfalso; omega)
      | (go_wp2
         go_ret
         refine ⟨rbool ?_, rfl⟩
         rw [HM.out]
         first
           | (symm; apply decide_eq_true; omega)
           | (symm; apply decide_eq_false; omega)
           | (apply decide_eq_decide.2; omega))
theorem clone_any (a : Option Addr) (n c : Nat) (l : List UInt8) (w : World) (hr : Rd w a n l) (hn : n ≤ 1048576) :
    Calls Try.prog 28 #[.slice a n c] w fun e w' => ∃ v, e = .returned v ∧ OB w' w.heap.size v l ∧ Below w.heap.size w w' := by
  have HR := Lib.hid hr
  have hl := hr.1
  rcases a with _ | p
  · have hl0 : l = [] := by
      rcases l with _ | ⟨x, l⟩
      · rfl
      · obtain ⟨p, e, -⟩ := hr.at 0 (by simp)
        cases e
    subst hl0
    clear hr
    simp at hl
    subst hl
    have he : ∀ w : World, (binOp .eql 26 (.slice none 0 c) (.slice none 0 0)).run Try.prog w = .ok (.bool true) w := fun _ => rfl
    go_enter Try.func28, Try.ntmps28
    go_wp2
    go_ret
    exact ⟨_, rfl, OB.nil _ _, Below.refl _ _⟩
  · have hb : Below w.heap.size w (w.alloc (.cells #[] 5)) := (Below.refl _ w).alloc (Nat.le_refl _) _
    have ho : OB (w.alloc (.cells #[] 5)) w.heap.size (.slice (some ⟨w.heap.size, 0, none⟩) 0 0) [] := ⟨rfl, .inr ⟨w.heap.size, 0, #[], rfl, Nat.le_refl _, alloc_new _ _ _ rfl, Nat.le_refl _, by unfold maxLen; omega, rfl, rfl⟩⟩
    have HO := Lib.hid ho
    have HB := Lib.hid hb
    have he : ∀ w : World, (binOp .eql 26 (.slice (some p) n c) (.slice none 0 0)).run Try.prog w = .ok (.bool false) w := fun _ => rfl
    clear hr ho hb
    go_enter Try.func28, Try.ntmps28
    go_wp2_with (at_builtin; refine wpList_app _ rfl _ _ rfl w.heap.size _ _ rfl HO.out _ _ _ _ rfl (HR.out.below HB.out) ?c1 ?c2 ?_)
    case c1 => simp; omega
    case c2 => simp
    intro v1 w1 ho1 hg1 hat1
    have hb1 := HO.out.grown HB.out (by simp) hg1
    go_wp2
    go_ret
    exact ⟨_, rfl, ho1, hb1⟩
end Go.Proofs.Ytleicgigkbfnbaa
