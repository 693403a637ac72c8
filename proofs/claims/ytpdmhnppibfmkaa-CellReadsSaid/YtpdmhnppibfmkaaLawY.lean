/- The walk of the law CellReads. -/
import Derived.Test.YtpdmhnppibfmkaaLawV0
import Derived.Test.YtpdmhnppibfmkaaClM4
import Derived.Test.YtpdmhnppibfmkaaClT
import Derived.Test.YtpdmhnppibfmkaaSame
namespace Go.Proofs.Ytpdmhnppibfmkaa
set_option linter.unusedVariables false
set_option linter.unusedSimpArgs false
open Go.RowKit

set_option maxRecDepth 100000 in
set_option maxHeartbeats 3200000 in
theorem cellReads_walk (a : Option Addr) (n ca : Nat) (b : List UInt8) (w : World) (hr : Rd w a n b) (hc : n ≤ ca) :
    Calls Try.prog 14 #[.slice a n ca] w fun e w' => e = .returned (.bool true) ∧ Below w.heap.size w w' := by
  have HR := Lib.hid hr
  have HP := Lib.hid (fun w (h : Rd w a n b) => pieces_fun a n ca b w h hc)
  have HQ := Lib.hid (fun w (h : Rd w a n b) => rpieces_fun a n ca b w h hc)
  have HK := Lib.hid (fun w (h : Rd w a n b) => kids_fun a n ca b w h hc)
  have HL := Lib.hid (fun w (h : Rd w a n b) => rkids_fun a n ca b w h hc)
  have HT := Lib.hid (fun w (h : Rd w a n b) => text_fun a n ca b w h hc)
  have HU := Lib.hid (fun w (h : Rd w a n b) => rtext_fun a n ca b w h hc)
  unfold TextEnd at HT HU
  generalize P.pcErr b = E1 at *
  generalize P.pcL b = L1 at *
  generalize P.kdErr b = E2 at *
  generalize P.kdL b = L2 at *
  generalize P.kdV b = V2 at *
  generalize P.txErr b = E3 at *
  generalize P.txL b = L3 at *
  clear hr
  by_cases hg : n ≤ 2000
  case neg =>
    have hq : 2000 < (n : Int) := by omega
    clear hg
    go_enter Try.func14, Try.ntmps14
    go_wp2_with fail
    refine (awake8_any _).mono ?_
    rintro e w1 ⟨rfl, hb⟩
    go_wp2
    go_ret
    exact ⟨rfl, hb⟩
  case pos =>
    have c2 : decide (2000 < (n : Int)) = false := decide_eq_false (by omega)
    have q1 : (E1 == E1) = true := by simp
    have q2 : (E2 == E2) = true := by simp
    have q3 : (E3 == E3) = true := by simp
    have q4 : (V2 == V2) = true := by simp
    go_enter Try.func14, Try.ntmps14
    go_wp2_with fail
    refine (awake8_any _).mono ?_
    rintro e w1 ⟨rfl, hb⟩
    go_wp2_with fail
    refine (HP.out _ (HR.out.below hb)).mono ?_
    rintro e w2 ⟨v2, rfl, ho2, hb2⟩
    obtain ⟨a2, c2, hv2, hr2, -, -, -⟩ := ho2.form
    subst hv2
    have R2 := Lib.hid (show RQ w2 a2 L1.length L1 from hr2)
    have hbb2 := below_then hb hb2 hb.size
    clear ho2 hr2
    go_wp2_with fail
    refine (HQ.out _ (HR.out.below hbb2)).mono ?_
    rintro e w3 ⟨v3, rfl, ho3, hb3⟩
    obtain ⟨a3, c3, hv3, hr3, -, -, -⟩ := ho3.form
    subst hv3
    have R3 := Lib.hid (show RQ w3 a3 L1.length L1 from hr3)
    have hbb3 := below_then hbb2 hb3 hbb2.size
    have S2 := Lib.hid (R2.out.below hb3)
    clear ho3 hr3 R2
    go_wp2_with fail
    refine (HK.out _ (HR.out.below hbb3)).mono ?_
    rintro e w4 ⟨v4, rfl, ho4, hb4⟩
    obtain ⟨a4, c4, hv4, hr4, -, -, -⟩ := ho4.form
    subst hv4
    have R4 := Lib.hid (show RQ w4 a4 L2.length L2 from hr4)
    have hbb4 := below_then hbb3 hb4 hbb3.size
    clear ho4 hr4
    go_wp2_with fail
    refine (HL.out _ (HR.out.below hbb4)).mono ?_
    rintro e w5 ⟨v5, rfl, ho5, hb5⟩
    obtain ⟨a5, c5, hv5, hr5, -, -, -⟩ := ho5.form
    subst hv5
    have R5 := Lib.hid (show RQ w5 a5 L2.length L2 from hr5)
    have hbb5 := below_then hbb4 hb5 hbb4.size
    clear ho5 hr5
    go_wp2_with fail
    refine (HT.out _ (HR.out.below hbb5)).mono ?_
    rintro e w6 ⟨a6, n6, c6, rfl, hr6, -, -, hb6⟩
    have hbb6 := below_then hbb5 hb6 hbb5.size
    have R6 := Lib.hid hr6
    clear hr6
    go_wp2_with fail
    refine (HU.out _ (HR.out.below hbb6)).mono ?_
    rintro e w7 ⟨a7, n7, c7, rfl, hr7, -, -, hb7⟩
    have hbb7 := below_then hbb6 hb7 hbb6.size
    have R7 := Lib.hid hr7
    clear hr7
    obtain rfl : n7 = n6 := by have h1 := R6.out.1; have h2 := R7.out.1; omega
    have x4 := hb4
    have b37 : Below w3.heap.size w3 w7 := ((hb4.trans (hb5.mono hb4.size)).trans (hb6.mono (hb4.trans (hb5.mono hb4.size)).size)).trans (hb7.mono ((hb4.trans (hb5.mono hb4.size)).trans (hb6.mono (hb4.trans (hb5.mono hb4.size)).size)).size)
    have b57 : Below w5.heap.size w5 w7 := hb6.trans (hb7.mono hb6.size)
    have b47 : Below w4.heap.size w4 w7 := hb5.trans (b57.mono hb5.size)
    have B37 := Lib.hid b37
    have B47 := Lib.hid b47
    have B57 := Lib.hid b57
    clear b37 b47 b57 x4 hb2 hb3 hb4 hb5 hb6
    go_wp2_with fail
    refine (lpieces_refl _ _ L1.length _ _ L1 _ (S2.out.below B37.out) (R3.out.below B37.out)).mono ?_
    rintro e w8 ⟨rfl, hb8⟩
    have hbb8 := below_then hbb7 hb8 hbb7.size
    go_wp2_with fail
    refine (lkids_refl _ _ L2.length _ _ L2 _ ((R4.out.below B47.out).below hb8) ((R5.out.below B57.out).below hb8)).mono ?_
    rintro e w9 ⟨rfl, hb9⟩
    have hbb9 := below_then hbb8 hb9 hbb8.size
    go_wp2_with fail
    refine (same_refl _ _ _ _ _ L3 _ (((R6.out.below hb7).below hb8).below hb9) ((R7.out.below hb8).below hb9)).mono ?_
    rintro e w10 ⟨rfl, hb10⟩
    go_wp2
    go_ret
    exact ⟨rfl, below_then hbb9 hb10 hbb9.size⟩
end Go.Proofs.Ytpdmhnppibfmkaa
