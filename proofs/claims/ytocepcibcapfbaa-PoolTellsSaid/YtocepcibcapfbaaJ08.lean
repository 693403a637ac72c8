/- The walks of the references' lies, Get, Copy, Same. -/
import Derived.Test.YtocepcibcapfbaaProg
import Derived.Test.YtocepcibcapfbaaJ01
import Derived.RegionTactic
import Derived.ChangeAlike
import Derived.Outline
import Derived.Test.YtocepcibcapfbaaJ02
import Derived.Deep.QuietTactic
import Derived.BigQuiet
namespace Go.Proofs.Ytocepcibcapfbaa
set_option linter.unusedVariables false
set_option linter.unusedSimpArgs false
open Go.RowKit

theorem take_snoc (l : List UInt8) (k : Nat) (h : k < l.length) : l.take (k + 1) = l.take k ++ [l[k]] := List.take_succ_eq_append_getElem h

set_option maxHeartbeats 400000 in
theorem same_any (a b : Option Addr) (la lb ca cb : Nat) (l k : List UInt8) (w : World) (hl : Rd w a la l) (hk : Rd w b lb k) :
    Calls Try.prog 17 #[.slice a la ca, .slice b lb cb] w fun e w' => e = .returned (.bool (decide (l = k))) ∧ ∃ n, w' = w.drewN n := by
  have la1 : l.length ≤ la := by have := hl.1; omega
  have la2 : la ≤ l.length := by have := hl.1; omega
  have lb1 : k.length ≤ lb := by have := hk.1; omega
  have lb2 : lb ≤ k.length := by have := hk.1; omega
  have hm := hl.2.1
  unfold maxLen at hm
  have HL := Lib.hid hl
  have HK := Lib.hid hk
  clear hl hk
  by_cases hne : la = lb
  · subst hne
    go_enter Try.func17, Try.ntmps17
    go_wp2
    go_loopw [5] (fun i wr => ∃ j : Nat, j ≤ la ∧ i = .int .i64 j ∧ l.take j = k.take j ∧ ∃ n, wr = w.drewN n) (fun i _ => la - (intOf i).toNat)
    case atStart => exact ⟨0, by omega, rfl, rfl, 0, rfl⟩
    case round =>
      obtain ⟨j, hj, rfl, hpre, n, rfl⟩ := hrel
      have HP := Lib.hid hpre
      clear hpre
      by_cases hlt : j < la
      · obtain ⟨p, rfl, hc0⟩ := HL.out.at j (by omega)
        obtain ⟨q, rfl, hd0⟩ := HK.out.at j (by omega)
        unfold bv at hc0 hd0
        by_cases he : l[j] = k[j]
        · have ht : ((l[j].toNat : Int) != (k[j].toNat : Int)) = false := by simp [he]
          have HN : Hid (l.take (j + 1) = k.take (j + 1)) := by
            rw [Hid, take_snoc l j (by omega), take_snoc k j (by omega), HP.out, he]
          clear he
          go_wp2
          go_quiet (fail)
          go_wp2
          exact ⟨⟨j + 1, by omega, by go_num, HN.out, _, rfl⟩, by simp [intOf]; omega⟩
        · have ht : ((l[j].toNat : Int) != (k[j].toNat : Int)) = true := by
            simp only [bne_iff_ne, ne_eq]
            intro e
            exact he (UInt8.toNat_inj.1 (by omega))
          have hv : decide (l = k) = false := by
            rw [decide_eq_false_iff_not]
            rintro rfl
            exact he rfl
          have HV := Lib.hid hv
          clear hv he
          go_wp2
          go_quiet (fail)
          go_wp2
          go_ret
          exact ⟨by rw [HV.out]; rfl, n + nq, World.drewN_drewN ..⟩
      · obtain rfl : j = la := by omega
        have hv : decide (l = k) = true := by
          rw [decide_eq_true_iff]
          have e := HP.out
          rwa [List.take_of_length_le (by omega), List.take_of_length_le (by omega)] at e
        have HV := Lib.hid hv
        clear hv
        go_wp2
        go_ret
        exact ⟨by rw [HV.out]; rfl, n, rfl⟩
  · have ht : ((la : Int) != (lb : Int)) = true := by simp only [bne_iff_ne, ne_eq]; omega
    have hv : decide (l = k) = false := by
      rw [decide_eq_false_iff_not]
      rintro rfl
      omega
    have HV := Lib.hid hv
    clear hv hne
    go_enter Try.func17, Try.ntmps17
    go_wp2
    go_ret
    exact ⟨by rw [HV.out]; rfl, 0, rfl⟩
end Go.Proofs.Ytocepcibcapfbaa
