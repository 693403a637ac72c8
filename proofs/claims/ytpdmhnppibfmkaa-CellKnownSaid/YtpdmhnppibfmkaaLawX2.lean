/- The walk of the law CellKnown. -/
import Derived.Test.YtpdmhnppibfmkaaLawX
namespace Go.Proofs.Ytpdmhnppibfmkaa
set_option linter.unusedVariables false
set_option linter.unusedSimpArgs false
open Go.RowKit

set_option maxRecDepth 100000 in
set_option maxHeartbeats 1600000 in
theorem cellKnown_walk (w : World) : Calls Try.prog 13 #[] w fun e w' => e = .returned (.bool true) ∧ Below w.heap.size w w' := by
  have HL0 := Lib.hid (fun w => leaf_fun none 0 0 [] w (RV.nil _ _ _))
  rw [le_nil, lb_nil] at HL0
  have HL1 := Lib.hid (fun a c w h => leaf_fun a 21 c (List.replicate 21 ⟨0, 0, 0, 0⟩) w h)
  rw [le_21, lb_21] at HL1
  have HB0 := Lib.hid (fun w => bytes_fun none 0 0 [] w (Rd.nil _ _))
  rw [te_nil, tb_nil] at HB0
  have ho1 := le_one
  obtain ⟨hb1, hb2⟩ := P.leaf_back [⟨5, 0, 3, 0⟩] ho1
  have HL2 := Lib.hid (fun a c w h => leaf_fun a 1 c [⟨5, 0, 3, 0⟩] w h)
  obtain ⟨K, hK⟩ : ∃ K, K = P.leafB [⟨5, 0, 3, 0⟩] := ⟨_, rfl⟩
  rw [ho1, ← hK] at HL2
  rw [← hK] at hb1
  obtain ⟨q1, q2⟩ := P.pcErr_zero hb1
  have ht4 : P.txErr K = 4 := by unfold P.txErr; rw [if_neg (by simpa using q1), if_neg (fun h => by have := h.1; have := q2.1; omega)]
  have HTX := Lib.hid (fun a n c w (h : Rd w a n K) (hc : n ≤ c) => text_fun a n c K w h hc)
  unfold TextEnd at HTX
  rw [ht4] at HTX
  have hmk : ∀ w, (Instr.makeSlice 50 (.int .i64 21) (.int .i64 21)).run Try.prog w = .ok (.slice (some ⟨w.heap.size, 0, none⟩) 21 21) (w.alloc (.cells no21 75)) := fun _ => by kernel_rfl
  have hn21 : ∀ w : World, RQ (w.alloc (.cells no21 75)) (some ⟨w.heap.size, 0, none⟩) 21 (List.replicate 21 ⟨0, 0, 0, 0⟩) := fun w => RV_lit w 75 21 4 (qCs (List.replicate 21 ⟨0, 0, 0, 0⟩)) rfl (by unfold maxLen; omega)
  have HN21 := Lib.hid hn21
  clear ho1 hb1 hb2 hK q1 q2 ht4 hn21
  go_enter Try.func13, Try.ntmps13
  go_wp2_with fail
  refine (awake8_any _).mono ?_
  rintro e w1 ⟨rfl, hb1⟩
  go_wp2_with fail
  refine (HL0.out _).mono ?_
  rintro e w2 ⟨v2, rfl, ho2, hb2⟩
  obtain ⟨a2, c2, hv2, -, -, -, -⟩ := ho2.form
  subst hv2
  have hbb2 := below_then hb1 hb2 hb1.size
  clear ho2
  go_wp2_with fail
  refine (HL1.out _ _ _ (HN21.out _)).mono ?_
  rintro e w3 ⟨v3, rfl, ho3, hb3⟩
  have hb3 := below_alloc1 hb3
  obtain ⟨a3, c3, hv3, -, -, -, -⟩ := ho3.form
  subst hv3
  have hbb3 := below_then hbb2 hb3 hbb2.size
  clear ho3
  go_wp2_with fail
  refine (HB0.out _).mono ?_
  rintro e w4 ⟨v4, rfl, ho4, hb4⟩
  obtain ⟨a4, c4, hv4, -, -, -, -⟩ := ho4.form
  subst hv4
  have hbb4 := below_then hbb3 hb4 hbb3.size
  clear ho4
  have hrq : RQ (w4.alloc (.cells #[.int .i64 5, .int .i64 0, .int .i64 3, .int .i64 0] 75)) (some ⟨w4.heap.size, 0, none⟩) 1 [⟨5, 0, 3, 0⟩] := RQ_one w4 75 ⟨5, 0, 3, 0⟩
  go_wp2_with fail
  refine (HL2.out _ _ _ hrq).mono ?_
  rintro e w5 ⟨v5, rfl, ho5, hb5⟩
  have hb5 := below_alloc1 hb5
  obtain ⟨a5, c5, hv5, hr5, hm5, -, -⟩ := ho5.form
  subst hv5
  have hbb5 := below_then hbb4 hb5 hbb4.size
  clear ho5
  go_wp2_with fail
  refine (HTX.out _ _ _ _ hr5 hm5).mono ?_
  rintro e w6 ⟨a6, n6, c6, rfl, -, -, -, hb6⟩
  have hbb6 := below_then hbb5 hb6 hbb5.size
  go_wp2
  go_ret
  exact ⟨rfl, hbb6⟩
end Go.Proofs.Ytpdmhnppibfmkaa
