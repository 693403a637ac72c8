/- The law of chapter 12: AuditKnown. -/
import Derived.Test.YtnjpaanjgbfbaaaJ51
import Derived.Test.YtnjpaanjgbfbaaaJ52
namespace Go.Proofs.Ytnjpaanjgbfbaaa
set_option linter.unusedVariables false
set_option linter.unusedSimpArgs false
open Go.RowKit

set_option maxRecDepth 100000 in
theorem zero_pg0 (np m : Nat) (h : m < np) : P.pg (List.replicate (256 * np) 0) m = List.replicate 256 0 := by
  unfold P.pg
  rw [List.drop_replicate, List.take_replicate]
  congr 1
  omega
theorem zero_opens (np : Nat) (h : 8 ≤ np) : opens np (List.replicate (256 * np) 0) = none := by
  unfold opens
  rw [zero_pg0 np 0 (by omega), zero_pg0 np 1 (by omega)]
  rw [(P.pick_n _ _ zero_bad zero_bad).2.2]
  rfl
theorem zero_chk : P.Sup.zero.chk = 1 := by decide
set_option maxRecDepth 100000 in
set_option maxHeartbeats 3200000 in
theorem auditKnown_walk (w : World) : Calls Try.prog 4 #[] w fun e w' => e = .returned (.bool true) ∧ Below w.heap.size w w' := by
  have HZO := Lib.hid (zero_opens 8 (by omega))
  have HNW := Lib.hid (fun w => dnew_any 8 w (by omega) (by omega))
  have HWN := Lib.hid (fun w => awalk_nil ⟨1, 8, 0, 0, 0, 0, 0, 0⟩ w)
  unfold supV repZ repC P.Sup.zero at HWN
  go_enter Try.func4, Try.ntmps4
  go_wp2_with fail
  refine (awake12_any _).mono ?_
  rintro e w1 ⟨rfl, hb1⟩
  go_wp2_with fail
  refine (HNW.out w1).mono ?_
  rintro e w2 ⟨d, rfl, hd, hD, hb2⟩
  have hbb2 := below_then hb1 hb2 hb1.size
  have HO := Lib.hid (aopen_ok d 8 _ 0 w2 hD (by omega))
  have HD := Lib.hid (show w1.heap.size ≤ d from hd)
  clear hd hD hb2
  go_wp2_with fail
  refine HO.out.mono ?_
  rintro e w3 ⟨hc3, k, hk, hD3, ⟨s', pl, sl, st, aP, cP, aT, cT, aS, cS, aG, cG, hop, -⟩ | ⟨-, rfl⟩⟩
  · have := HZO.out
    rw [show 256 * 8 = 8 * 256 from rfl] at this
    rw [this] at hop
    cases hop
  have hbb3 := below_chg hbb2 hc3 hbb2.size (fun i e => by have := HD.out; have := hb1.size; unfold OnlyD at e; omega)
  have HD3 := Lib.hid hD3
  have HKK := Lib.hid hk
  unfold repZ repC P.Sup.zero
  clear hc3 hD3 HO hk
  go_wp2_with fail
  refine (aopen_nil _).mono ?_
  rintro e w4 ⟨rfl, hb4⟩
  have hb34 := below_alloc1 hb4
  have hbb4 := below_then hbb3 hb34 hbb3.size
  have HD4 := Lib.hid (HD3.out.below hb34)
  unfold repZ repC P.Sup.zero
  clear hb4 hb34
  go_wp2_with fail
  refine (HWN.out _).mono ?_
  rintro e w5 ⟨rfl, hb5⟩
  have hb45 := below_alloc1 hb5
  have hbb5 := below_then hbb4 hb45 hbb4.size
  have HWK := Lib.hid (fun o => awalk_any d 8 (List.replicate (8 * 256) 0) (0 + k) P.Sup.zero (w5.alloc o) ((HD4.out.below hb45).below ((Below.refl _ w5).alloc (Nat.le_refl _) o)) (by have := HKK.out; omega))
  unfold supV P.Sup.zero at HWK
  clear hb5 hb45
  go_wp2_with fail
  refine (HWK.out _).mono ?_
  rintro e w6 ⟨hc6, -, hcase⟩
  have hz := zero_chk
  unfold P.Sup.zero at hz
  rcases hcase with ⟨-, rfl⟩ | ⟨h, -⟩ | ⟨h, -⟩
  rotate_left
  · rw [hz] at h; cases h
  · rw [hz] at h; cases h
  have hbb6 := below_chg (hbb5.alloc hbb5.size _) hc6 (by have := hbb5.size; simp; omega) (fun i e => by have := HD.out; have := hb1.size; unfold OnlyD at e; omega)
  unfold repZ repC P.Sup.zero
  clear hc6 hz
  go_wp2
  go_ret
  exact ⟨rfl, hbb6.alloc hbb6.size _⟩
end Go.Proofs.Ytnjpaanjgbfbaaa
