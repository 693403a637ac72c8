/- The walk of the law ChainOne. Printed by gen_lawz4.py. -/
import Derived.Test.YtpdmhnppibfmkaaLawZ4b
import Derived.Test.YtpdmhnppibfmkaaLawZ4c
import Derived.Test.YtpdmhnppibfmkaaLawZ4d
import Derived.Test.YtpdmhnppibfmkaaLawZ4e
namespace Go.Proofs.Ytpdmhnppibfmkaa
set_option linter.unusedVariables false
set_option linter.unusedSimpArgs false
open Go.RowKit

theorem chainOne_walk (a0 : Option Addr) (n0 c0 : Nat) (A : List UInt8) (a1 : Option Addr) (n1 c1 : Nat) (B : List UInt8) (bit : Int) (w : World) (hr0 : Rd w a0 n0 A) (hc0 : n0 ≤ c0) (hr1 : Rd w a1 n1 B) (hc1 : n1 ≤ c1) (hbit : -9223372036854775808 ≤ bit ∧ bit ≤ 9223372036854775807) : Calls Try.prog 12 #[.slice a0 n0 c0, .slice a1 n1 c1, .int .i64 bit] w fun e w' => e = .returned (.bool true) ∧ Below w.heap.size w w' := by
  by_cases hg : n0 = 0 ∨ n1 = 0 ∨ 2000 < n0 ∨ 2000 < n1
  · exact chainOne_out a0 n0 c0 A a1 n1 c1 B bit w hr0 hc0 hr1 hc1 hbit hg
  rcases Nat.lt_trichotomy n0 n1 with h | h | h
  · exact chainOne_lt a0 n0 c0 A a1 n1 c1 B bit w hr0 hc0 hr1 hc1 hbit (by omega) (by omega) (by omega) (by omega) h
  · exact chainOne_eq a0 n0 c0 A a1 n1 c1 B bit w hr0 hc0 hr1 hc1 hbit (by omega) (by omega) (by omega) (by omega) h
  · exact chainOne_gt a0 n0 c0 A a1 n1 c1 B bit w hr0 hc0 hr1 hc1 hbit (by omega) (by omega) (by omega) (by omega) h
end Go.Proofs.Ytpdmhnppibfmkaa
