/- The walk of the law CellInners. -/
import Derived.Test.YtpdmhnppibfmkaaLawV0
import Derived.Test.YtpdmhnppibfmkaaClG
import Derived.Test.YtpdmhnppibfmkaaSame
namespace Go.Proofs.Ytpdmhnppibfmkaa
set_option linter.unusedVariables false
set_option linter.unusedSimpArgs false
open Go.RowKit

set_option maxRecDepth 100000 in
set_option maxHeartbeats 1600000 in
theorem cellInners_walk (lv : Int) (a : Option Addr) (n ca : Nat) (l : List P.Q) (w : World) (hlv : -9223372036854775808 ≤ lv ∧ lv ≤ 9223372036854775807) (hr : RQ w a n l) (hc : n ≤ ca) :
    Calls Try.prog 15 #[.int .i64 lv, .slice a n ca] w fun e w' => e = .returned (.bool true) ∧ Below w.heap.size w w' := by
  have HR := Lib.hid hr
  have HL := Lib.hid (fun w (h : RQ w a n l) => inner_fun lv a n ca l w h)
  have HRL := Lib.hid (fun w (h : RQ w a n l) => rinner_fun lv a n ca l w h)
  have hln := hr.len
  have hlen' := hln
  have HBK := Lib.hid (fun h => P.inn_back lv l h)
  have hkl : P.innErr lv l = 0 → (P.innB lv l).length = 256 := fun h => P.openErr_len _ (P.kdErr_zero (P.inn_back lv l h).1).1
  have HKL := Lib.hid hkl
  have HPF := Lib.hid (fun a len cap w (hr : Rd w a len (P.innB lv l)) (hm : len ≤ cap) => kids_fun a len cap (P.innB lv l) w hr hm)
  have HLN := Lib.hid hln
  generalize P.innErr lv l = E at *
  generalize P.innB lv l = K at *
  clear hr hkl hln hlen'
  by_cases hg : n ≤ 200
  case neg =>
    have hq : 200 < (n : Int) := by omega
    clear hg
    go_enter Try.func15, Try.ntmps15
    go_wp2_with fail
    refine (awake8_any _).mono ?_
    rintro e w1 ⟨rfl, hb⟩
    go_wp2
    go_ret
    exact ⟨rfl, hb⟩
  case pos =>
    have c2 : decide (200 < (n : Int)) = false := decide_eq_false (by omega)
    go_enter Try.func15, Try.ntmps15
    go_wp2_with fail
    refine (awake8_any _).mono ?_
    rintro e w1 ⟨rfl, hb⟩
    go_wp2_with fail
    refine (HL.out _ (HR.out.below hb)).mono ?_
    rintro e w2 ⟨v2, rfl, ho2, hb2⟩
    obtain ⟨a3, p3, hv2, hr3, hm3, -, -⟩ := ho2.form
    subst hv2
    have HR3 := Lib.hid hr3
    have hbb2 := below_then hb hb2 hb.size
    clear ho2 hr3
    go_wp2_with fail
    refine (HRL.out _ (HR.out.below hbb2)).mono ?_
    rintro e w3 ⟨v3, rfl, ho3, hb3⟩
    obtain ⟨a4, p4, hv3, hr4, -, -, -⟩ := ho3.form
    subst hv3
    have HR4 := Lib.hid hr4
    have HR33 := Lib.hid (HR3.out.below hb3)
    have hbb3 := below_then hbb2 hb3 hbb2.size
    clear ho3 hr4
    have hE0 : (E != E) = false := by simp
    go_wp2_with fail
    refine (same_refl _ _ _ _ _ K _ HR33.out HR4.out).mono ?_
    rintro e w4 ⟨rfl, hb4⟩
    have hbb4 := below_then hbb3 hb4 hbb3.size
    by_cases hz : E = 0
    · have d1 : (E != 0) = false := by simp [hz]
      obtain ⟨q1, q2, q3⟩ := HBK.out hz
      have HQ1 := Lib.hid q1
      have HQ2 := Lib.hid q2
      have HQ3 := Lib.hid q3
      have hLL : (lv == lv) = true := by simp
      clear hz q1 q2 q3
      go_wp2_with fail
      refine (HPF.out _ _ _ _ (HR33.out.below hb4) hm3).mono ?_
      rintro e w5 ⟨v5, rfl, ho5, hb5⟩
      rw [HQ1.out, HQ3.out]
      rw [HQ2.out, HLN.out] at ho5
      have hbb5 := below_then hbb4 hb5 hbb4.size
      obtain ⟨a5, c5, hv5, hr5, -, -, -⟩ := ho5.form
      subst hv5
      have HR5 := Lib.hid (show RQ w5 a5 n l from hr5)
      clear ho5 hr5
      go_wp2_with fail
      refine (lkids_refl _ _ n _ _ l _ HR5.out (HR.out.below hbb5)).mono ?_
      rintro e w6 ⟨rfl, hb6⟩
      go_wp2
      go_ret
      exact ⟨rfl, below_then hbb5 hb6 hbb5.size⟩
    · have d1 : (E != 0) = true := by simpa using hz
      clear hz
      go_wp2
      go_ret
      exact ⟨rfl, hbb4⟩
end Go.Proofs.Ytpdmhnppibfmkaa
