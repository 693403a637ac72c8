/- The walk of the law ChainOne. Printed by gen_lawz4.py. -/
import Derived.Test.YtpdmhnppibfmkaaLawZ4a
namespace Go.Proofs.Ytpdmhnppibfmkaa
set_option linter.unusedVariables false
set_option linter.unusedSimpArgs false
open Go.RowKit

set_option maxRecDepth 100000 in
set_option maxHeartbeats 1600000 in
theorem chainOne_out (a0 : Option Addr) (n0 c0 : Nat) (A : List UInt8) (a1 : Option Addr) (n1 c1 : Nat) (B : List UInt8) (bit : Int) (w : World) (hr0 : Rd w a0 n0 A) (hc0 : n0 ≤ c0) (hr1 : Rd w a1 n1 B) (hc1 : n1 ≤ c1) (hbit : -9223372036854775808 ≤ bit ∧ bit ≤ 9223372036854775807) (hg : n0 = 0 ∨ n1 = 0 ∨ 2000 < n0 ∨ 2000 < n1) : Calls Try.prog 12 #[.slice a0 n0 c0, .slice a1 n1 c1, .int .i64 bit] w fun e w' => e = .returned (.bool true) ∧ Below w.heap.size w w' := by
  clear hr0 hr1
  have j1 : ((n0 : Int) == 0) = decide (n0 = 0) := by
    by_cases h : n0 = 0 <;> simp [h]
  by_cases h0 : (n0 : Int) = 0 <;> by_cases h1 : (n1 : Int) = 0 <;> by_cases h2 : 2000 < (n0 : Int) <;> by_cases h3 : 2000 < (n1 : Int)
  all_goals
    first
      | (exfalso; omega)
      | (go_enter Try.func12, Try.ntmps12
         go_wp2_with fail
         refine (awake11_any _).mono ?_
         rintro e w1 ⟨rfl, hb⟩
         go_wp2
         all_goals
           first
             | (exfalso; omega)
             | (go_ret; exact ⟨rfl, hb⟩))
end Go.Proofs.Ytpdmhnppibfmkaa
