/- The walks of chapter 8: the reference's Pieces, Kids. Printed by gen_clm.py. -/
import Derived.Test.YtpdmhnppibfmkaaClL
import Derived.Test.YtpdmhnppibfmkaaCel4
namespace Go.Proofs.Ytpdmhnppibfmkaa
set_option linter.unusedVariables false
set_option linter.unusedSimpArgs false
open Go.RowKit

set_option maxRecDepth 100000 in
set_option maxHeartbeats 1600000 in
theorem rpieces_open (a : Option Addr) (len cap : Nat) (l : List UInt8) (w : World) (hr : Rd w a len l) (hc : len ≤ cap) (he : P.openErr l ≠ 0) :
    Calls Try.prog 44 #[.slice a len cap] w fun e w' => e = .returned (.tuple #[.slice none 0 0, .int .i64 (P.openErr l)]) ∧ Below w.heap.size w w' := by
  have c1 : (P.openErr l != 0) = true := by simpa using he
  have HO := Lib.hid (ropen_fun a len cap l w hr hc)
  generalize P.openErr l = E at *
  clear hr he
  go_enter Try.func44, Try.ntmps44
  go_wp2_with fail
  refine HO.out.mono ?_
  rintro e w1 ⟨v, rfl, hown, hb1⟩
  obtain ⟨av, pv, hv, -, -, -, -⟩ := hown.form
  subst hv
  clear hown
  go_wp2
  exact bodyPost_ret (v := .tuple #[.slice none 0 0, .int .i64 E]) (by simp [results, Try.results44, go_sem]) rfl ⟨rfl, hb1.alloc hb1.size _⟩
set_option maxRecDepth 100000 in
set_option maxHeartbeats 1600000 in
theorem rpieces_form (a : Option Addr) (len cap : Nat) (l : List UInt8) (w : World) (hr : Rd w a len l) (hc : len ≤ cap) (he : P.openErr l = 0) (hf : ¬ (P.openKind l = 3 ∧ P.openLevel l = 0 ∧ 1 ≤ P.openCount l ∧ P.openCount l ≤ 20)) :
    Calls Try.prog 44 #[.slice a len cap] w fun e w' => e = .returned (.tuple #[.slice none 0 0, .int .i64 4]) ∧ Below w.heap.size w w' := by
  have HO := ropen_fun a len cap l w hr hc
  rw [he, show P.oK l = ((P.openKind l : Nat) : Int) by simp [P.oK, he], show P.oL l = ((P.openLevel l : Nat) : Int) by simp [P.oL, he], show P.oC l = ((P.openCount l : Nat) : Int) by simp [P.oC, he], show P.oB l = P.openBody l by simp [P.oB, he]] at HO
  have HO := Lib.hid HO
  have hBl := clbody_length he
  generalize P.openBody l = BD at *
  generalize P.openKind l = kk at *
  generalize P.openLevel l = lv at *
  generalize P.openCount l = ct at *
  clear hr he
  go_enter Try.func44, Try.ntmps44
  go_wp2_with fail
  refine HO.out.mono ?_
  rintro e w1 ⟨v, rfl, hown, hb1⟩
  obtain ⟨ga, pv, hv, hga, -, hr1, hpv⟩ := hown.pos (by omega)
  rw [hBl] at hv hr1 hpv
  subst hv
  have HR1 := Lib.hid hr1
  clear hown hr1
  have hb2 : Below w1.heap.size w1 (w1.alloc (.cells #[.int .i64 (kk : Nat), .int .i64 (lv : Nat), .int .i64 (ct : Nat), .slice (some ⟨ga, 0, none⟩) 248 pv] 42)) := (Below.refl _ w1).alloc (Nat.le_refl _) _
  have hk2 : (w1.alloc (.cells #[.int .i64 (kk : Nat), .int .i64 (lv : Nat), .int .i64 (ct : Nat), .slice (some ⟨ga, 0, none⟩) 248 pv] 42)).heap[w1.heap.size]? = _ := alloc_new _ _ _ rfl
  by_cases d1 : (kk : Int) = 3 <;> by_cases d2 : (lv : Int) = 0 <;> by_cases d4 : (ct : Int) < 1 <;> by_cases d5 : 20 < (ct : Int)
  all_goals
    first
      | (exfalso; omega)
      | (go_wp2_with fail
         all_goals
           first
             | (exfalso; omega)
             | (exact bodyPost_ret (v := .tuple #[.slice none 0 0, .int .i64 4]) (by simp [results, Try.results44, go_sem]) rfl ⟨rfl, hb1.alloc hb1.size _⟩))
set_option maxRecDepth 100000 in
set_option maxHeartbeats 1600000 in
theorem rpieces_tail (a : Option Addr) (len cap : Nat) (l : List UInt8) (w : World) (hr : Rd w a len l) (hc : len ≤ cap) (he : P.openErr l = 0) (hk : P.openKind l = 3) (hv : P.openLevel l = 0) (hc1 : 1 ≤ P.openCount l) (hc2 : P.openCount l ≤ 20) (hz : P.zeros ((P.openBody l).drop (12 * P.openCount l)) = false) :
    Calls Try.prog 44 #[.slice a len cap] w fun e w' => e = .returned (.tuple #[.slice none 0 0, .int .i64 4]) ∧ Below w.heap.size w w' := by
  have HO := ropen_fun a len cap l w hr hc
  rw [he, show P.oK l = ((P.openKind l : Nat) : Int) by simp [P.oK, he], show P.oL l = ((P.openLevel l : Nat) : Int) by simp [P.oL, he], show P.oC l = ((P.openCount l : Nat) : Int) by simp [P.oC, he], show P.oB l = P.openBody l by simp [P.oB, he]] at HO
  have HO := Lib.hid HO
  have hBl := clbody_length he
  generalize P.openBody l = BD at *
  generalize P.openKind l = kk at *
  generalize P.openLevel l = lv at *
  generalize P.openCount l = ct at *
  clear hr he
  have t1 : ((kk : Int) != 3) = false := by simp [hk]
  have t2 : ((lv : Int) != 0) = false := by simp [hv]
  have c1 : decide ((ct : Int) < 1) = false := decide_eq_false (by omega)
  have c2 : decide (20 < (ct : Int)) = false := decide_eq_false (by omega)
  obtain ⟨M, hM⟩ : ∃ M, M = 12 * ct := ⟨_, rfl⟩
  have hMl : M ≤ 240 := by omega
  have hM1 : 1 ≤ M := by omega
  have hmul : 12 * (ct : Int) = (M : Int) := by omega
  have i1 : (0 : Int) ≤ (M : Int) := by omega
  have i2 : (M : Int) ≤ 248 := by omega
  rw [← hM] at hz
  have HM := Lib.hid hM
  clear hk hv hM
  go_enter Try.func44, Try.ntmps44
  go_wp2_with fail
  refine HO.out.mono ?_
  rintro e w1 ⟨v, rfl, hown, hb1⟩
  obtain ⟨ga, pv, hv, hga, -, hr1, hpv⟩ := hown.pos (by omega)
  rw [hBl] at hv hr1 hpv
  subst hv
  have HR1 := Lib.hid hr1
  clear hown hr1
  have hb2 : Below w1.heap.size w1 (w1.alloc (.cells #[.int .i64 (kk : Nat), .int .i64 (lv : Nat), .int .i64 (ct : Nat), .slice (some ⟨ga, 0, none⟩) 248 pv] 42)) := (Below.refl _ w1).alloc (Nat.le_refl _) _
  have hk2 : (w1.alloc (.cells #[.int .i64 (kk : Nat), .int .i64 (lv : Nat), .int .i64 (ct : Nat), .slice (some ⟨ga, 0, none⟩) 248 pv] 42)).heap[w1.heap.size]? = _ := alloc_new _ _ _ rfl
  go_wp2_with fail
  generalize (w1.alloc (.cells #[.int .i64 (kk : Nat), .int .i64 (lv : Nat), .int .i64 (ct : Nat), .slice (some ⟨ga, 0, none⟩) 248 pv] 42)) = w2 at *
  have hbb2 := below_then hb1 hb2 hb1.size
  have HR2 := Lib.hid (HR1.out.below hb2)
  have l2 := lt_of_block hk2
  have HK2 := Lib.hid hk2
  clear hk2
  refine (rzeros_any _ _ _ BD M _ HR2.out (by omega)).mono ?_
  rw [hz]
  rintro e w4 ⟨rfl, rfl⟩
  go_wp2
  exact bodyPost_ret (v := .tuple #[.slice none 0 0, .int .i64 4]) (by simp [results, Try.results44, go_sem]) rfl ⟨rfl, hbb2⟩
set_option maxRecDepth 100000 in
set_option maxHeartbeats 1600000 in
theorem rkids_open (a : Option Addr) (len cap : Nat) (l : List UInt8) (w : World) (hr : Rd w a len l) (hc : len ≤ cap) (he : P.openErr l ≠ 0) :
    Calls Try.prog 46 #[.slice a len cap] w fun e w' => e = .returned (.tuple #[.int .i64 0, .slice none 0 0, .int .i64 (P.openErr l)]) ∧ Below w.heap.size w w' := by
  have c1 : (P.openErr l != 0) = true := by simpa using he
  have HO := Lib.hid (ropen_fun a len cap l w hr hc)
  generalize P.openErr l = E at *
  clear hr he
  go_enter Try.func46, Try.ntmps46
  go_wp2_with fail
  refine HO.out.mono ?_
  rintro e w1 ⟨v, rfl, hown, hb1⟩
  obtain ⟨av, pv, hv, -, -, -, -⟩ := hown.form
  subst hv
  clear hown
  go_wp2
  exact bodyPost_ret (v := .tuple #[.int .i64 0, .slice none 0 0, .int .i64 E]) (by simp [results, Try.results46, go_sem]) rfl ⟨rfl, hb1.alloc hb1.size _⟩
set_option maxRecDepth 100000 in
set_option maxHeartbeats 1600000 in
theorem rkids_form (a : Option Addr) (len cap : Nat) (l : List UInt8) (w : World) (hr : Rd w a len l) (hc : len ≤ cap) (he : P.openErr l = 0) (hf : ¬ (P.openKind l = 2 ∧ (1 ≤ P.openLevel l ∧ P.openLevel l ≤ 32) ∧ 1 ≤ P.openCount l ∧ P.openCount l ≤ 12)) :
    Calls Try.prog 46 #[.slice a len cap] w fun e w' => e = .returned (.tuple #[.int .i64 0, .slice none 0 0, .int .i64 4]) ∧ Below w.heap.size w w' := by
  have HO := ropen_fun a len cap l w hr hc
  rw [he, show P.oK l = ((P.openKind l : Nat) : Int) by simp [P.oK, he], show P.oL l = ((P.openLevel l : Nat) : Int) by simp [P.oL, he], show P.oC l = ((P.openCount l : Nat) : Int) by simp [P.oC, he], show P.oB l = P.openBody l by simp [P.oB, he]] at HO
  have HO := Lib.hid HO
  have hBl := clbody_length he
  generalize P.openBody l = BD at *
  generalize P.openKind l = kk at *
  generalize P.openLevel l = lv at *
  generalize P.openCount l = ct at *
  clear hr he
  go_enter Try.func46, Try.ntmps46
  go_wp2_with fail
  refine HO.out.mono ?_
  rintro e w1 ⟨v, rfl, hown, hb1⟩
  obtain ⟨ga, pv, hv, hga, -, hr1, hpv⟩ := hown.pos (by omega)
  rw [hBl] at hv hr1 hpv
  subst hv
  have HR1 := Lib.hid hr1
  clear hown hr1
  have hb2 : Below w1.heap.size w1 (w1.alloc (.cells #[.int .i64 (kk : Nat), .int .i64 (lv : Nat), .int .i64 (ct : Nat), .slice (some ⟨ga, 0, none⟩) 248 pv] 42)) := (Below.refl _ w1).alloc (Nat.le_refl _) _
  have hk2 : (w1.alloc (.cells #[.int .i64 (kk : Nat), .int .i64 (lv : Nat), .int .i64 (ct : Nat), .slice (some ⟨ga, 0, none⟩) 248 pv] 42)).heap[w1.heap.size]? = _ := alloc_new _ _ _ rfl
  by_cases d1 : (kk : Int) = 2 <;> by_cases d2 : (lv : Int) < 1 <;> by_cases d3 : 32 < (lv : Int) <;> by_cases d4 : (ct : Int) < 1 <;> by_cases d5 : 12 < (ct : Int)
  all_goals
    first
      | (exfalso; omega)
      | (go_wp2_with fail
         all_goals
           first
             | (exfalso; omega)
             | (exact bodyPost_ret (v := .tuple #[.int .i64 0, .slice none 0 0, .int .i64 4]) (by simp [results, Try.results46, go_sem]) rfl ⟨rfl, hb1.alloc hb1.size _⟩))
set_option maxRecDepth 100000 in
set_option maxHeartbeats 1600000 in
theorem rkids_tail (a : Option Addr) (len cap : Nat) (l : List UInt8) (w : World) (hr : Rd w a len l) (hc : len ≤ cap) (he : P.openErr l = 0) (hk : P.openKind l = 2) (hv1 : 1 ≤ P.openLevel l) (hv2 : P.openLevel l ≤ 32) (hc1 : 1 ≤ P.openCount l) (hc2 : P.openCount l ≤ 12) (hz : P.zeros ((P.openBody l).drop (20 * P.openCount l)) = false) :
    Calls Try.prog 46 #[.slice a len cap] w fun e w' => e = .returned (.tuple #[.int .i64 0, .slice none 0 0, .int .i64 4]) ∧ Below w.heap.size w w' := by
  have HO := ropen_fun a len cap l w hr hc
  rw [he, show P.oK l = ((P.openKind l : Nat) : Int) by simp [P.oK, he], show P.oL l = ((P.openLevel l : Nat) : Int) by simp [P.oL, he], show P.oC l = ((P.openCount l : Nat) : Int) by simp [P.oC, he], show P.oB l = P.openBody l by simp [P.oB, he]] at HO
  have HO := Lib.hid HO
  have hBl := clbody_length he
  generalize P.openBody l = BD at *
  generalize P.openKind l = kk at *
  generalize P.openLevel l = lv at *
  generalize P.openCount l = ct at *
  clear hr he
  have t1 : ((kk : Int) != 2) = false := by simp [hk]
  have t2 : decide ((lv : Int) < 1) = false := decide_eq_false (by omega)
  have t3 : decide (32 < (lv : Int)) = false := decide_eq_false (by omega)
  have c1 : decide ((ct : Int) < 1) = false := decide_eq_false (by omega)
  have c2 : decide (12 < (ct : Int)) = false := decide_eq_false (by omega)
  obtain ⟨M, hM⟩ : ∃ M, M = 20 * ct := ⟨_, rfl⟩
  have hMl : M ≤ 240 := by omega
  have hM1 : 1 ≤ M := by omega
  have hmul : 20 * (ct : Int) = (M : Int) := by omega
  have i1 : (0 : Int) ≤ (M : Int) := by omega
  have i2 : (M : Int) ≤ 248 := by omega
  rw [← hM] at hz
  have HM := Lib.hid hM
  clear hk  hM
  go_enter Try.func46, Try.ntmps46
  go_wp2_with fail
  refine HO.out.mono ?_
  rintro e w1 ⟨v, rfl, hown, hb1⟩
  obtain ⟨ga, pv, hv, hga, -, hr1, hpv⟩ := hown.pos (by omega)
  rw [hBl] at hv hr1 hpv
  subst hv
  have HR1 := Lib.hid hr1
  clear hown hr1
  have hb2 : Below w1.heap.size w1 (w1.alloc (.cells #[.int .i64 (kk : Nat), .int .i64 (lv : Nat), .int .i64 (ct : Nat), .slice (some ⟨ga, 0, none⟩) 248 pv] 42)) := (Below.refl _ w1).alloc (Nat.le_refl _) _
  have hk2 : (w1.alloc (.cells #[.int .i64 (kk : Nat), .int .i64 (lv : Nat), .int .i64 (ct : Nat), .slice (some ⟨ga, 0, none⟩) 248 pv] 42)).heap[w1.heap.size]? = _ := alloc_new _ _ _ rfl
  go_wp2_with fail
  generalize (w1.alloc (.cells #[.int .i64 (kk : Nat), .int .i64 (lv : Nat), .int .i64 (ct : Nat), .slice (some ⟨ga, 0, none⟩) 248 pv] 42)) = w2 at *
  have hbb2 := below_then hb1 hb2 hb1.size
  have HR2 := Lib.hid (HR1.out.below hb2)
  have l2 := lt_of_block hk2
  have HK2 := Lib.hid hk2
  clear hk2
  refine (rzeros_any _ _ _ BD M _ HR2.out (by omega)).mono ?_
  rw [hz]
  rintro e w4 ⟨rfl, rfl⟩
  go_wp2
  exact bodyPost_ret (v := .tuple #[.int .i64 0, .slice none 0 0, .int .i64 4]) (by simp [results, Try.results46, go_sem]) rfl ⟨rfl, hbb2⟩
end Go.Proofs.Ytpdmhnppibfmkaa
