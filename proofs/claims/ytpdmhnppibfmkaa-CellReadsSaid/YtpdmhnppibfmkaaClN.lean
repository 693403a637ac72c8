/- The walks of chapter 8: are two lists of pieces, of kids the same? Printed by gen_cln.py. -/
import Derived.Test.YtpdmhnppibfmkaaClL
namespace Go.Proofs.Ytpdmhnppibfmkaa
set_option linter.unusedVariables false
set_option linter.unusedSimpArgs false
open Go.RowKit
set_option maxRecDepth 100000 in
set_option maxHeartbeats 1600000 in
theorem lpieces_refl (a b : Option Addr) (n ca cb : Nat) (l : List P.Q) (w : World) (ha : RQ w a n l) (hb : RQ w b n l) :
    Calls Try.prog 33 #[.slice a n ca, .slice b n cb] w fun e w' => e = .returned (.bool true) ∧ Below w.heap.size w w' := by
  have hln := ha.len
  have hnm := ha.2.1
  unfold maxLen at hnm
  have HA := Lib.hid ha
  have HB := Lib.hid hb
  clear ha hb
  go_enter Try.func33, Try.ntmps33
  go_wp2
  go_loopw [5] (fun i wr => ∃ j : Nat, j ≤ n ∧ i = .int .i64 j ∧ Below w.heap.size w wr) (fun i _ => n - (intOf i).toNat)
  case atStart => exact ⟨0, by omega, rfl, Below.refl _ _⟩
  case round =>
    obtain ⟨j, hj, rfl, hbr⟩ := hrel
    by_cases hlt : j < n
    · obtain ⟨p, rfl, hp0, hp1, hp2, hp3⟩ := (HA.out.below hbr).at j (by omega)
      obtain ⟨q, rfl, hq0, hq1, hq2, hq3⟩ := (HB.out.below hbr).at j (by omega)
      generalize l[j] = Q at *
      obtain ⟨A, B, C, D⟩ := Q
      simp only at hp0 hp1 hp2 hp3 hq0 hq1 hq2 hq3
      have hbd : Below w.heap.size w wr.drew := ⟨hbr.os, hbr.tape, hbr.output, hbr.size, hbr.block⟩
      go_wp2
      go_quiet (fail)
      go_wp2
      exact ⟨⟨j + 1, by omega, by go_num, below_drewN hbr _⟩, by simp [intOf]; omega⟩
    · go_wp2
      go_ret
      exact ⟨rfl, hbr⟩
set_option maxRecDepth 100000 in
set_option maxHeartbeats 1600000 in
theorem lkids_refl (a b : Option Addr) (n ca cb : Nat) (l : List P.Q) (w : World) (ha : RQ w a n l) (hb : RQ w b n l) :
    Calls Try.prog 48 #[.slice a n ca, .slice b n cb] w fun e w' => e = .returned (.bool true) ∧ Below w.heap.size w w' := by
  have hln := ha.len
  have hnm := ha.2.1
  unfold maxLen at hnm
  have HA := Lib.hid ha
  have HB := Lib.hid hb
  clear ha hb
  go_enter Try.func48, Try.ntmps48
  go_wp2
  go_loopw [5] (fun i wr => ∃ j : Nat, j ≤ n ∧ i = .int .i64 j ∧ Below w.heap.size w wr) (fun i _ => n - (intOf i).toNat)
  case atStart => exact ⟨0, by omega, rfl, Below.refl _ _⟩
  case round =>
    obtain ⟨j, hj, rfl, hbr⟩ := hrel
    by_cases hlt : j < n
    · obtain ⟨p, rfl, hp0, hp1, hp2, hp3⟩ := (HA.out.below hbr).at j (by omega)
      obtain ⟨q, rfl, hq0, hq1, hq2, hq3⟩ := (HB.out.below hbr).at j (by omega)
      generalize l[j] = Q at *
      obtain ⟨A, B, C, D⟩ := Q
      simp only at hp0 hp1 hp2 hp3 hq0 hq1 hq2 hq3
      have hbd : Below w.heap.size w wr.drew := ⟨hbr.os, hbr.tape, hbr.output, hbr.size, hbr.block⟩
      go_wp2
      go_quiet (fail)
      go_wp2
      exact ⟨⟨j + 1, by omega, by go_num, below_drewN hbr _⟩, by simp [intOf]; omega⟩
    · go_wp2
      go_ret
      exact ⟨rfl, hbr⟩
end Go.Proofs.Ytpdmhnppibfmkaa
