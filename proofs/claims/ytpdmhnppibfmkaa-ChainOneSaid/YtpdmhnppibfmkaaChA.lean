/- The walks of chapter 11: may there be a page, how many pages, noughts. -/
import Derived.Test.YtpdmhnppibfmkaaNo
import Derived.Test.YtpdmhnppibfmkaaClA
import Derived.Test.YtpdmhnppibfmkaaChn
namespace Go.Proofs.Ytpdmhnppibfmkaa
set_option linter.unusedVariables false
set_option linter.unusedSimpArgs false
open Go.RowKit

theorem chon_any (n : Int) (w : World) : Calls Try.prog 74 #[.int .i64 n] w fun e w' => e = .returned (.bool (decide (2 ≤ n ∧ n < 4096))) ∧ w' = w := by
  go_enter Try.func74, Try.ntmps74
  by_cases h1 : 2 ≤ n <;> by_cases h2 : n < 4096
  all_goals
    go_wp2
    go_ret
    exact ⟨by simp [*], rfl⟩
theorem need_any (n : Int) (w : World) (hn : -9223372036854775808 ≤ n ∧ n ≤ 9223372036854775807) : Calls Try.prog 36 #[.int .i64 n] w fun e w' => e = .returned (.int .i64 (P.need n)) ∧ w' = w := by
  obtain ⟨N, hN⟩ : ∃ N, N = P.need n := ⟨_, rfl⟩
  unfold P.need at hN
  rw [show P.need n = N by rw [hN]; rfl]
  by_cases h1 : n < 1
  · have c1 : decide (n < 1) = true := decide_eq_true h1
    rw [if_pos h1] at hN
    subst hN
    go_enter Try.func36, Try.ntmps36
    go_wp2
    go_ret
    exact ⟨rfl, rfl⟩
  · have c1 : decide (n < 1) = false := decide_eq_false h1
    rw [if_neg h1] at hN
    have hq : Int.tdiv (n - 1) 244 = (n - 1) / 244 := Int.tdiv_eq_ediv_of_nonneg (by omega)
    have hw1 : IntKind.i64.wrap (n - 1) = n - 1 := IntWalk.i64_in _ (by omega)
    have hw2 : IntKind.i64.wrap ((n - 1) / 244) = (n - 1) / 244 := IntWalk.i64_in _ (by omega)
    have hw3 : IntKind.i64.wrap ((n - 1) / 244 + 1) = (n - 1) / 244 + 1 := IntWalk.i64_in _ (by omega)
    have HN := Lib.hid hN
    clear hN
    go_enter Try.func36, Try.ntmps36
    go_wp2
    go_ret
    exact ⟨by rw [HN.out]; first | rfl | simp [hq, hw1, hw2, hw3], rfl⟩
theorem rneed_any (n : Int) (w : World) (hn : -9223372036854775808 ≤ n ∧ n ≤ 9223372036854775807) : Calls Try.prog 39 #[.int .i64 n] w fun e w' => e = .returned (.int .i64 (P.need n)) ∧ w' = w := by
  obtain ⟨N, hN⟩ : ∃ N, N = P.need n := ⟨_, rfl⟩
  unfold P.need at hN
  rw [show P.need n = N by rw [hN]; rfl]
  by_cases h1 : n < 1
  · have c1 : decide (n < 1) = true := decide_eq_true h1
    rw [if_pos h1] at hN
    subst hN
    go_enter Try.func39, Try.ntmps39
    go_wp2
    go_ret
    exact ⟨rfl, rfl⟩
  · have c1 : decide (n < 1) = false := decide_eq_false h1
    rw [if_neg h1] at hN
    have hq : Int.tdiv (n - 1) 244 = (n - 1) / 244 := Int.tdiv_eq_ediv_of_nonneg (by omega)
    have hw1 : IntKind.i64.wrap (n - 1) = n - 1 := IntWalk.i64_in _ (by omega)
    have hw2 : IntKind.i64.wrap ((n - 1) / 244) = (n - 1) / 244 := IntWalk.i64_in _ (by omega)
    have hw3 : IntKind.i64.wrap ((n - 1) / 244 + 1) = (n - 1) / 244 + 1 := IntWalk.i64_in _ (by omega)
    have HN := Lib.hid hN
    clear hN
    go_enter Try.func39, Try.ntmps39
    go_wp2
    go_ret
    exact ⟨by rw [HN.out]; first | rfl | simp [hq, hw1, hw2, hw3], rfl⟩
set_option maxRecDepth 100000 in
set_option maxHeartbeats 400000 in
theorem chnoughts_any (a : Option Addr) (len cap : Nat) (l : List UInt8) (w : World) (hl : Rd w a len l) :
    Calls Try.prog 75 #[.slice a len cap] w fun e w' => e = .returned (.bool (P.zeros l)) ∧ w' = w := by
  have la1 : l.length ≤ len := by have := hl.1; omega
  have la2 : len ≤ l.length := by have := hl.1; omega
  have hm := hl.2.1
  unfold maxLen at hm
  have HL := Lib.hid hl
  clear hl
  go_enter Try.func75, Try.ntmps75
  go_wp2
  go_loopw [7] (fun i wr => ∃ j : Nat, j ≤ len ∧ i = .int .i64 j ∧ P.zeros (l.take j) = true ∧ wr = w) (fun i _ => len - (intOf i).toNat)
  case atStart => exact ⟨0, by omega, rfl, by simp [P.zeros], rfl⟩
  case round =>
    obtain ⟨j, hj, rfl, hpre, rfl⟩ := hrel
    have HP := Lib.hid hpre
    clear hpre
    by_cases hlt : j < len
    · obtain ⟨p, rfl, hc0⟩ := HL.out.at j (by omega)
      unfold bv at hc0
      by_cases he : l[j] = 0
      · have ht : ((l[j].toNat : Int) != 0) = false := by simp [he]
        have HN : Hid (P.zeros (l.take (j + 1)) = true) := Lib.hid (zeros_take HP.out (by omega) he)
        clear he
        go_wp2
        exact ⟨⟨j + 1, by omega, by go_num, HN.out, by first | trivial | rfl⟩, by simp [intOf]; omega⟩
      · have ht : ((l[j].toNat : Int) != 0) = true := by
          simp only [bne_iff_ne, ne_eq]
          intro e
          exact he (UInt8.toNat_inj.1 (by simpa using e))
        have HV := Lib.hid (zeros_not (by omega) he)
        clear he
        go_wp2
        go_ret
        exact ⟨by rw [HV.out]; rfl, rfl⟩
    · obtain rfl : j = len := by omega
      have hv : P.zeros l = true := by
        have e := HP.out
        rwa [List.take_of_length_le (by omega)] at e
      have HV := Lib.hid hv
      clear hv
      go_wp2
      go_ret
      exact ⟨by rw [HV.out]; rfl, rfl⟩

end Go.Proofs.Ytpdmhnppibfmkaa
