/- The walk of chapter 8's awake. -/
import Derived.Test.YtpdmhnppibfmkaaClN
namespace Go.Proofs.Ytpdmhnppibfmkaa
set_option linter.unusedVariables false
set_option linter.unusedSimpArgs false
open Go.RowKit

def oneQ : P.Q := ⟨5, 1, 3, 1⟩
set_option maxRecDepth 100000 in
set_option maxHeartbeats 1600000 in
theorem awake8_any (w : World) : Calls Try.prog 29 #[] w fun e w' => e = .returned (.bool true) ∧ Below w.heap.size w w' := by
  have he : P.leafErr [oneQ] = 0 := by decide
  obtain ⟨hb1, hb2⟩ := P.leaf_back [oneQ] he
  have HLF := fun a ca w h => leaf_fun a 1 ca [oneQ] w h
  have hkl : (P.leafB [oneQ]).length = 256 := P.openErr_len _ (P.pcErr_zero hb1).1
  obtain ⟨K, hK⟩ : ∃ K, K = P.leafB [oneQ] := ⟨_, rfl⟩
  rw [he, ← hK] at HLF
  rw [← hK] at hb1 hb2 hkl
  have HPF := fun a cap w (hr : Rd w a 256 K) (hm : 256 ≤ cap) => pieces_fun a 256 cap K w hr hm
  rw [hb1, hb2] at HPF
  have HLF := Lib.hid HLF
  have HPF := Lib.hid HPF
  have HKL := Lib.hid hkl
  clear hb1 hb2 hK he hkl
  have hrq : RQ (w.alloc (.cells #[.int .i64 5, .int .i64 1, .int .i64 3, .int .i64 1] 75)) (some ⟨w.heap.size, 0, none⟩) 1 [oneQ] := RQ_one w 75 oneQ
  have HRQ := Lib.hid hrq
  clear hrq
  go_enter Try.func29, Try.ntmps29
  go_wp2_with fail
  refine (HLF.out _ _ _ HRQ.out).mono ?_
  rintro e w1 ⟨v1, rfl, ho1, hb1⟩
  have hbb1 := below_alloc1 hb1
  obtain ⟨a1, c1, hv1, hr1, hm1, -, -⟩ := ho1.form
  rw [HKL.out] at hv1 hr1 hm1
  subst hv1
  have HR1 := Lib.hid hr1
  clear ho1 hr1 hb1
  go_wp2_with fail
  refine (HPF.out _ _ _ HR1.out hm1).mono ?_
  rintro e w2 ⟨v2, rfl, ho2, hb2⟩
  have hbb2 := below_then hbb1 hb2 hbb1.size
  obtain ⟨g, c2, hv2, hg1, hg2, hrv, -⟩ := ho2.pos (by simp)
  have hq : RQ w2 (some ⟨g, 0, none⟩) 1 [oneQ] := hrv
  obtain ⟨p, e, k0, k1, k2, k3⟩ := hq.at 0 (by simp)
  cases e
  have q0 : w2.cell? ⟨g, 0, none⟩ = some (.int .i64 5) := k0
  have q2 : w2.cell? ⟨g, 2, none⟩ = some (.int .i64 3) := k2
  subst hv2
  clear ho2 hrv hq k0 k1 k2 k3
  go_wp2
  go_ret
  exact ⟨rfl, hbb2⟩
end Go.Proofs.Ytpdmhnppibfmkaa
