/- The walks of the laws ChainParts, ChainKnown. -/
import Derived.Test.YtpdmhnppibfmkaaChK
import Derived.Test.YtpdmhnppibfmkaaChC
namespace Go.Proofs.Ytpdmhnppibfmkaa
set_option linter.unusedVariables false
set_option linter.unusedSimpArgs false
open Go.RowKit

set_option maxRecDepth 100000 in
set_option maxHeartbeats 1600000 in
theorem chainParts_walk (a : Option Addr) (n ca : Nat) (b : List UInt8) (w : World) (hr : Rd w a n b) (hc : n ≤ ca) :
    Calls Try.prog 10 #[.slice a n ca] w fun e w' => e = .returned (.bool true) ∧ Below w.heap.size w w' := by
  have HR := Lib.hid hr
  have HP := Lib.hid (fun w (h : Rd w a n b) => part_fun a n ca b w h hc)
  have HQ := Lib.hid (fun w (h : Rd w a n b) => rpart_fun a n ca b w h hc)
  unfold PartEnd at HP HQ
  generalize P.ptErr b = E at *
  generalize P.ptL b = L at *
  generalize P.ptN b = N at *
  clear hr
  by_cases hg : n ≤ 2000
  case neg =>
    have hq : 2000 < (n : Int) := by omega
    clear hg
    go_enter Try.func10, Try.ntmps10
    go_wp2_with fail
    refine (awake11_any _).mono ?_
    rintro e w1 ⟨rfl, hb⟩
    go_wp2
    go_ret
    exact ⟨rfl, hb⟩
  case pos =>
    have c2 : decide (2000 < (n : Int)) = false := decide_eq_false (by omega)
    have q1 : (E == E) = true := by simp
    have q2 : (N == N) = true := by simp
    go_enter Try.func10, Try.ntmps10
    go_wp2_with fail
    refine (awake11_any _).mono ?_
    rintro e w1 ⟨rfl, hb⟩
    go_wp2_with fail
    refine (HP.out _ (HR.out.below hb)).mono ?_
    rintro e w2 ⟨a2, n2, c2, rfl, hr2, -, -, hb2⟩
    have hbb2 := below_then hb hb2 hb.size
    have R2 := Lib.hid hr2
    clear hr2
    go_wp2_with fail
    refine (HQ.out _ (HR.out.below hbb2)).mono ?_
    rintro e w3 ⟨a3, n3, c3, rfl, hr3, -, -, hb3⟩
    have hbb3 := below_then hbb2 hb3 hbb2.size
    have R3 := Lib.hid hr3
    clear hr3
    obtain rfl : n3 = n2 := by have h1 := R2.out.1; have h2 := R3.out.1; omega
    go_wp2_with fail
    refine (same_refl _ _ _ _ _ L _ (R2.out.below hb3) R3.out).mono ?_
    rintro e w4 ⟨rfl, hb4⟩
    go_wp2
    go_ret
    exact ⟨rfl, below_then hbb3 hb4 hbb3.size⟩
theorem kn_err1 : P.cutErr [1] [] = 1 := by
  have h : P.fits [1] [] = false := by
    rcases hf : P.fits [1] [] with _ | _
    · rfl
    · have := ((P.fits_iff _ _).1 hf).1
      simp [P.needN] at this
  unfold P.cutErr
  rw [h]
  rfl
theorem kn_fit : P.fits [] [] = true := by
  rw [P.fits_iff]
  exact ⟨rfl, by simp, by simp⟩
theorem kn_err0 : P.cutErr [] [] = 0 := by unfold P.cutErr; rw [kn_fit, if_pos rfl, if_neg (by simp)]
theorem kn_L0 : (P.cutL [] []).length = 0 := by unfold P.cutL; rw [if_pos kn_err0]; simp [P.cutTo]
set_option maxRecDepth 100000 in
set_option maxHeartbeats 1600000 in
theorem chainKnown_walk (w : World) : Calls Try.prog 8 #[] w fun e w' => e = .returned (.bool true) ∧ Below w.heap.size w w' := by
  have HC1 := Lib.hid (fun a c w (h : Rd w a 1 [1]) (hc : 1 ≤ c) => cut_fun a 1 c [1] none 0 0 [] w h hc (RV.nil _ _ _))
  rw [kn_err1] at HC1
  have HC0 := Lib.hid (fun w => cut_fun none 0 0 [] none 0 0 [] w (Rd.nil _ _) (Nat.le_refl _) (RV.nil _ _ _))
  rw [kn_err0] at HC0
  have HL0 := Lib.hid kn_L0
  have n0 : P.need 0 = 0 := by decide
  have n1 : P.need 244 = 1 := by decide
  have n2 : P.need 245 = 2 := by decide
  have n3 : P.need (-5) = 0 := by decide
  have HN0 := Lib.hid (fun w => need_any 0 w (by omega))
  have HN1 := Lib.hid (fun w => need_any 244 w (by omega))
  have HN2 := Lib.hid (fun w => need_any 245 w (by omega))
  have HN3 := Lib.hid (fun w => need_any (-5) w (by omega))
  rw [n0] at HN0
  rw [n1] at HN1
  rw [n2] at HN2
  rw [n3] at HN3
  clear n0 n1 n2 n3
  go_enter Try.func8, Try.ntmps8
  go_wp2_with fail
  refine (awake11_any _).mono ?_
  rintro e w1 ⟨rfl, hb1⟩
  have hr0 := Rd_lit w1 5 [1] (fr := (0, 0)) (by simp [maxLen])
  go_wp2_with fail
  refine (HC1.out _ _ _ hr0 (Nat.le_refl _)).mono ?_
  rintro e w2 ⟨v2, rfl, ho2, hb2⟩
  have hb2 := below_alloc1 hb2
  have hbb2 := below_then hb1 hb2 hb1.size
  obtain ⟨a2, c2, hv2, -⟩ := ho2.form
  subst hv2
  clear ho2
  go_wp2_with fail
  refine (HC0.out _).mono ?_
  rintro e w3 ⟨v3, rfl, ho3, hb3⟩
  have hbb3 := below_then hbb2 hb3 hbb2.size
  obtain ⟨a3, c3, hv3, -⟩ := ho3.form
  rw [HL0.out] at hv3
  subst hv3
  clear ho3
  go_wp2_with fail
  refine (HN0.out _).mono ?_
  rintro e w4 ⟨rfl, rfl⟩
  go_wp2_with fail
  refine (HN1.out _).mono ?_
  rintro e w4 ⟨rfl, rfl⟩
  go_wp2_with fail
  refine (HN2.out _).mono ?_
  rintro e w4 ⟨rfl, rfl⟩
  go_wp2_with fail
  refine (HN3.out _).mono ?_
  rintro e w4 ⟨rfl, rfl⟩
  go_wp2
  go_ret
  exact ⟨rfl, hbb3⟩
end Go.Proofs.Ytpdmhnppibfmkaa
