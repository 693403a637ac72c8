/- The walks of the laws of chapter 1. -/
import Derived.Test.YtjhiiikijpalhaaOcE
import Derived.WalkLawsBesides
namespace Go.Proofs.Ytjhiiikijpalhaa
set_option linter.unusedVariables false
set_option linter.unusedSimpArgs false
open Go.RowKit

theorem get_awake : P.get [1, 2, 3] 1 2 = (515, true) := by decide

set_option maxHeartbeats 400000 in
theorem awake1_any (w : World) : Calls Try.prog 12 #[] w fun e w' => e = .returned (.bool true) ∧ Below w.heap.size w w' := by
  go_enter Try.func12, Try.ntmps12
  go_wp2_with fail
  refine (get_any _ _ _ [1, 2, 3] _ _ _ (Rd_lit _ _ [1, 2, 3] (by simp [maxLen])) (by omega)).mono ?_
  rintro e w' ⟨rfl, hb⟩
  rw [get_awake]
  go_wp2
  go_ret
  exact ⟨rfl, below_then ((Below.refl _ w).alloc (Nat.le_refl _) _) hb (by simp)⟩

set_option maxHeartbeats 400000 in
theorem octetGets_walk (a : Option Addr) (len cap : Nat) (l : List UInt8) (at_ n : Int) (w : World) (hr : Rd w a len l) (hc : len ≤ cap)
    (hat : -9223372036854775808 ≤ at_ ∧ at_ ≤ 9223372036854775807) (hn : -9223372036854775808 ≤ n ∧ n ≤ 9223372036854775807) :
    Calls Try.prog 3 #[.slice a len cap, .int .i64 at_, .int .i64 n] w fun e w' => e = .returned (.bool true) ∧ Below w.heap.size w w' := by
  have HR := Lib.hid hr
  clear hr
  by_cases hl : 20000 < (len : Int)
  · go_enter Try.func3, Try.ntmps3
    go_wp2_with fail
    refine (awake1_any _).mono ?_
    rintro e w1 ⟨rfl, hb1⟩
    go_wp2
    go_ret
    exact ⟨rfl, hb1⟩
  · go_enter Try.func3, Try.ntmps3
    go_wp2_with fail
    refine (awake1_any _).mono ?_
    rintro e w1 ⟨rfl, hb1⟩
    go_wp2_with fail
    refine (get_any _ _ _ l _ _ _ (HR.out.below hb1) hat).mono ?_
    rintro e w2 ⟨rfl, hb2⟩
    have hb3 := below_then hb1 hb2 hb1.size
    go_wp2_with fail
    refine (rget_any _ _ _ l _ _ _ (HR.out.below hb3) hat).mono ?_
    rintro e w3 ⟨rfl, rfl⟩
    cases (P.get l at_ n).2
    all_goals
      go_wp2
      go_ret
      exact ⟨by first | rfl | (simp; done), hb3⟩
end Go.Proofs.Ytjhiiikijpalhaa
