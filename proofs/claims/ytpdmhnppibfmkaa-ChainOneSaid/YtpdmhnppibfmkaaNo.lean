/- The walks of noughts: cell's, chain's, the reference's. -/
import Derived.Test.YtpdmhnppibfmkaaGr
import Derived.Test.YtpdmhnppibfmkaaOcB
import Derived.Test.YtpdmhnppibfmkaaCel3
namespace Go.Proofs.Ytpdmhnppibfmkaa
set_option linter.unusedVariables false
set_option linter.unusedSimpArgs false
open Go.RowKit

theorem zeros_take {l : List UInt8} {j : Nat} (h : P.zeros (l.take j) = true) (hj : j < l.length) (hz : l[j] = 0) : P.zeros (l.take (j + 1)) = true := by
  rw [take_snoc l j hj]
  unfold P.zeros at *
  rw [List.all_append, h]
  simp [hz]
theorem zeros_not {l : List UInt8} {j : Nat} (hj : j < l.length) (hz : l[j] ≠ 0) : P.zeros l = false := by
  unfold P.zeros
  rw [List.all_eq_false]
  exact ⟨l[j], List.getElem_mem hj, by simpa using hz⟩
set_option maxRecDepth 100000 in
set_option maxHeartbeats 400000 in
theorem cnoughts_any (a : Option Addr) (len cap : Nat) (l : List UInt8) (w : World) (hl : Rd w a len l) :
    Calls Try.prog 76 #[.slice a len cap] w fun e w' => e = .returned (.bool (P.zeros l)) ∧ w' = w := by
  have la1 : l.length ≤ len := by have := hl.1; omega
  have la2 : len ≤ l.length := by have := hl.1; omega
  have hm := hl.2.1
  unfold maxLen at hm
  have HL := Lib.hid hl
  clear hl
  go_enter Try.func76, Try.ntmps76
  go_wp2
  go_loopw [7] (fun i wr => ∃ j : Nat, j ≤ len ∧ i = .int .i64 j ∧ P.zeros (l.take j) = true ∧ wr = w) (fun i _ => len - (intOf i).toNat)
  case atStart => exact ⟨0, by omega, rfl, by simp [P.zeros], rfl⟩
  case round =>
    obtain ⟨j, hj, rfl, hpre, rfl⟩ := hrel
    have HP := Lib.hid hpre
    clear hpre
    by_cases hlt : j < len
    · obtain ⟨p, rfl, hc0⟩ := HL.out.at j (by omega)
      unfold bv at hc0
      by_cases he : l[j] = 0
      · have ht : ((l[j].toNat : Int) != 0) = false := by simp [he]
        have HN : Hid (P.zeros (l.take (j + 1)) = true) := Lib.hid (zeros_take HP.out (by omega) he)
        clear he
        go_wp2
        exact ⟨⟨j + 1, by omega, by go_num, HN.out, by first | trivial | rfl⟩, by simp [intOf]; omega⟩
      · have ht : ((l[j].toNat : Int) != 0) = true := by
          simp only [bne_iff_ne, ne_eq]
          intro e
          exact he (UInt8.toNat_inj.1 (by simpa using e))
        have HV := Lib.hid (zeros_not (by omega) he)
        clear he
        go_wp2
        go_ret
        exact ⟨by rw [HV.out]; rfl, rfl⟩
    · obtain rfl : j = len := by omega
      have hv : P.zeros l = true := by
        have e := HP.out
        rwa [List.take_of_length_le (by omega)] at e
      have HV := Lib.hid hv
      clear hv
      go_wp2
      go_ret
      exact ⟨by rw [HV.out]; rfl, rfl⟩

theorem drop_take_snoc' (l : List UInt8) (i j : Nat) (h : i + j < l.length) : (l.drop i).take (j + 1) = (l.drop i).take j ++ [l[i + j]] := by
  rw [take_snoc _ j (by simp; omega)]
  simp
set_option maxRecDepth 100000 in
set_option maxHeartbeats 400000 in
theorem rzeros_any (a : Option Addr) (len cap : Nat) (l : List UInt8) (i : Nat) (w : World) (hl : Rd w a len l) (hi : i ≤ len) :
    Calls Try.prog 61 #[.slice a len cap, .int .i64 i] w fun e w' => e = .returned (.bool (P.zeros (l.drop i))) ∧ w' = w := by
  have la1 : l.length ≤ len := by have := hl.1; omega
  have la2 : len ≤ l.length := by have := hl.1; omega
  have hm := hl.2.1
  unfold maxLen at hm
  have HL := Lib.hid hl
  clear hl
  go_enter Try.func61, Try.ntmps61
  go_wp2
  go_loopw [5] (fun x wr => ∃ j : Nat, i + j ≤ len ∧ x = .int .i64 ((i + j : Nat) : Int) ∧ P.zeros ((l.drop i).take j) = true ∧ wr = w) (fun x _ => len - (intOf x).toNat)
  case atStart => exact ⟨0, by omega, rfl, by simp [P.zeros], rfl⟩
  case round =>
    obtain ⟨j, hj, rfl, hpre, rfl⟩ := hrel
    have HP := Lib.hid hpre
    clear hpre
    by_cases hlt : i + j < len
    · obtain ⟨p, rfl, hc0⟩ := HL.out.at (i + j) (by omega)
      unfold bv at hc0
      by_cases he : l[i + j] = 0
      · have ht : ((l[i + j].toNat : Int) != 0) = false := by simp [he]
        have HN : Hid (P.zeros ((l.drop i).take (j + 1)) = true) := by
          rw [Hid, drop_take_snoc' l i j (by omega), he]
          have h := HP.out
          unfold P.zeros at *
          rw [List.all_append, h]
          rfl
        clear he
        obtain ⟨m, hm⟩ : ∃ m, m = i + j := ⟨_, rfl⟩
        go_wp2
        exact ⟨⟨j + 1, by omega, by first | go_num | (simp; omega), HN.out, by first | trivial | rfl⟩, by simp [intOf]; omega⟩
      · have ht : ((l[i + j].toNat : Int) != 0) = true := by
          simp only [bne_iff_ne, ne_eq]
          intro e
          exact he (UInt8.toNat_inj.1 (by simpa using e))
        have HV := Lib.hid (zeros_not (l := l.drop i) (j := j) (by simp; omega) (by simpa using he))
        clear he
        go_wp2
        go_ret
        exact ⟨by rw [HV.out]; rfl, rfl⟩
    · have hv : P.zeros (l.drop i) = true := by
        have e := HP.out
        rwa [List.take_of_length_le (by simp; omega)] at e
      have HV := Lib.hid hv
      clear hv
      go_wp2
      go_ret
      exact ⟨by rw [HV.out]; rfl, rfl⟩
end Go.Proofs.Ytpdmhnppibfmkaa
