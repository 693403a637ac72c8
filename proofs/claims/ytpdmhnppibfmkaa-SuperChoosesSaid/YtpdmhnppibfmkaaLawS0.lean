/- The walks of the laws of chapter 7: awake, SuperCodes. -/
import Derived.Test.YtpdmhnppibfmkaaSpN
import Derived.Test.YtpdmhnppibfmkaaSame
namespace Go.Proofs.Ytpdmhnppibfmkaa
set_option linter.unusedVariables false
set_option linter.unusedSimpArgs false
open Go.RowKit

def oneS : P.Sup := ⟨1, 8, 0, 0, 0, 0, 0, 2⟩
set_option maxRecDepth 100000 in
set_option maxHeartbeats 1600000 in
theorem awake7_any (w : World) : Calls Try.prog 17 #[] w fun e w' => e = .returned (.bool true) ∧ Below w.heap.size w w' := by
  have hc : oneS.chk = 0 := by decide
  have HE := Lib.hid (fun w => enc_fun oneS w)
  obtain ⟨hd1, hd2⟩ := P.sErr_page hc
  have HL := Lib.hid (P.Sup.page_length hc)
  obtain ⟨K, hK⟩ : ∃ K, K = oneS.page := ⟨_, rfl⟩
  rw [hc, ← hK] at HE
  rw [← hK] at hd1 hd2 HL
  have HD := fun a len cap w (hr : Rd w a len K) (hm : len ≤ cap) => dec_fun a len cap K w hr hm
  rw [hd1, hd2] at HD
  have HD := Lib.hid HD
  clear hc hd1 hd2 hK
  unfold supV oneS at HE HD
  go_enter Try.func17, Try.ntmps17
  go_wp2_with fail
  refine (HE.out _).mono ?_
  rintro e w1 ⟨v1, rfl, hown1, hb1⟩
  have hb := below_alloc1 hb1
  have hk := made_below hb1
  have hlt := lt_of_block hk
  have HK := Lib.hid hk
  obtain ⟨a1, p1, hv1, hr1, hc1, -, -⟩ := hown1.form
  rw [HL.out] at hv1 hr1 hc1
  subst hv1
  have HR1 := Lib.hid hr1
  clear hown1 hr1 hk hb1
  go_wp2_with fail
  refine (HD.out _ _ _ _ HR1.out hc1).mono ?_
  rintro e w2 ⟨rfl, hb2⟩
  have hbb := below_then hb hb2 hb.size
  have g := cell_blk ((hb2.block _ hlt).trans HK.out)
  have hlt2 : w.heap.size < w2.heap.size := by have := hb2.size; omega
  go_wp2
  go_ret
  exact ⟨by first | rfl | (simp; done), hbb.alloc hbb.size _⟩
end Go.Proofs.Ytpdmhnppibfmkaa
