/- The walks of chapter 8: the reference's Pieces, Kids. Printed by gen_clm.py. -/
import Derived.Test.YtnjpaanjgbfbaaaGreatJ12
import Derived.Test.YtnjpaanjgbfbaaaGreatJ09
namespace Go.Proofs.YtnjpaanjgbfbaaaGreat
set_option linter.unusedVariables false
set_option linter.unusedSimpArgs false
open Go.RowKit

set_option maxRecDepth 100000 in
set_option maxHeartbeats 1600000 in
theorem rpieces_open (a : Option Addr) (len cap : Nat) (l : List UInt8) (w : World) (hr : Rd w a len l) (hc : len ≤ cap) (he : P.openErr l ≠ 0) :
    Calls Tryz.prog 82 #[.slice a len cap] w fun e w' => e = .returned (.tuple #[.slice none 0 0, .int .i64 (P.openErr l)]) ∧ Below w.heap.size w w' := by
  have c1 : (P.openErr l != 0) = true := by simpa using he
  have HO := Lib.hid (ropen_fun a len cap l w hr hc)
  generalize P.openErr l = E at *
  clear hr he
  go_enter Tryz.func82, Tryz.ntmps82
  go_wp2_with fail
  refine HO.out.mono ?_
  rintro e w1 ⟨v, rfl, hown, hb1⟩
  obtain ⟨av, pv, hv, -, -, -, -⟩ := hown.form
  subst hv
  clear hown
  go_wp2
  exact bodyPost_ret (v := .tuple #[.slice none 0 0, .int .i64 E]) (by simp [results, Tryz.results82, go_sem]) rfl ⟨rfl, hb1.alloc hb1.size _⟩
set_option maxRecDepth 100000 in
set_option maxHeartbeats 1600000 in
theorem rpieces_form (a : Option Addr) (len cap : Nat) (l : List UInt8) (w : World) (hr : Rd w a len l) (hc : len ≤ cap) (he : P.openErr l = 0) (hf : ¬ (P.openKind l = 3 ∧ P.openLevel l = 0 ∧ 1 ≤ P.openCount l ∧ P.openCount l ≤ 20)) :
    Calls Tryz.prog 82 #[.slice a len cap] w fun e w' => e = .returned (.tuple #[.slice none 0 0, .int .i64 4]) ∧ Below w.heap.size w w' := by
  have HO := ropen_fun a len cap l w hr hc
  rw [he, show P.oK l = ((P.openKind l : Nat) : Int) by simp [P.oK, he], show P.oL l = ((P.openLevel l : Nat) : Int) by simp [P.oL, he], show P.oC l = ((P.openCount l : Nat) : Int) by simp [P.oC, he], show P.oB l = P.openBody l by simp [P.oB, he]] at HO
  have HO := Lib.hid HO
  have hBl := clbody_length he
  generalize P.openBody l = BD at *
  generalize P.openKind l = kk at *
  generalize P.openLevel l = lv at *
  generalize P.openCount l = ct at *
  clear hr he
  go_enter Tryz.func82, Tryz.ntmps82
  go_wp2_with fail
  refine HO.out.mono ?_
  rintro e w1 ⟨v, rfl, hown, hb1⟩
  obtain ⟨ga, pv, hv, hga, -, hr1, hpv⟩ := hown.pos (by omega)
  rw [hBl] at hv hr1 hpv
  subst hv
  have HR1 := Lib.hid hr1
  clear hown hr1
  have hb2 : Below w1.heap.size w1 (w1.alloc (.cells #[.int .i64 (kk : Nat), .int .i64 (lv : Nat), .int .i64 (ct : Nat), .slice (some ⟨ga, 0, none⟩) 248 pv] 89)) := (Below.refl _ w1).alloc (Nat.le_refl _) _
  have hk2 : (w1.alloc (.cells #[.int .i64 (kk : Nat), .int .i64 (lv : Nat), .int .i64 (ct : Nat), .slice (some ⟨ga, 0, none⟩) 248 pv] 89)).heap[w1.heap.size]? = _ := alloc_new _ _ _ rfl
  by_cases d1 : (kk : Int) = 3 <;> by_cases d2 : (lv : Int) = 0 <;> by_cases d4 : (ct : Int) < 1 <;> by_cases d5 : 20 < (ct : Int)
  all_goals
    first
      | (exfalso; omega)
      | (go_wp2_with fail
         all_goals
           first
             | (exfalso; omega)
             | (exact bodyPost_ret (v := .tuple #[.slice none 0 0, .int .i64 4]) (by simp [results, Tryz.results82, go_sem]) rfl ⟨rfl, hb1.alloc hb1.size _⟩))
set_option maxRecDepth 100000 in
set_option maxHeartbeats 1600000 in
theorem rpieces_tail (a : Option Addr) (len cap : Nat) (l : List UInt8) (w : World) (hr : Rd w a len l) (hc : len ≤ cap) (he : P.openErr l = 0) (hk : P.openKind l = 3) (hv : P.openLevel l = 0) (hc1 : 1 ≤ P.openCount l) (hc2 : P.openCount l ≤ 20) (hz : P.zeros ((P.openBody l).drop (12 * P.openCount l)) = false) :
    Calls Tryz.prog 82 #[.slice a len cap] w fun e w' => e = .returned (.tuple #[.slice none 0 0, .int .i64 4]) ∧ Below w.heap.size w w' := by
  have HO := ropen_fun a len cap l w hr hc
  rw [he, show P.oK l = ((P.openKind l : Nat) : Int) by simp [P.oK, he], show P.oL l = ((P.openLevel l : Nat) : Int) by simp [P.oL, he], show P.oC l = ((P.openCount l : Nat) : Int) by simp [P.oC, he], show P.oB l = P.openBody l by simp [P.oB, he]] at HO
  have HO := Lib.hid HO
  have hBl := clbody_length he
  generalize P.openBody l = BD at *
  generalize P.openKind l = kk at *
  generalize P.openLevel l = lv at *
  generalize P.openCount l = ct at *
  clear hr he
  have t1 : ((kk : Int) != 3) = false := by simp [hk]
  have t2 : ((lv : Int) != 0) = false := by simp [hv]
  have c1 : decide ((ct : Int) < 1) = false := decide_eq_false (by omega)
  have c2 : decide (20 < (ct : Int)) = false := decide_eq_false (by omega)
  obtain ⟨M, hM⟩ : ∃ M, M = 12 * ct := ⟨_, rfl⟩
  have hMl : M ≤ 240 := by omega
  have hM1 : 1 ≤ M := by omega
  have hmul : 12 * (ct : Int) = (M : Int) := by omega
  have i1 : (0 : Int) ≤ (M : Int) := by omega
  have i2 : (M : Int) ≤ 248 := by omega
  rw [← hM] at hz
  have HM := Lib.hid hM
  clear hk hv hM
  go_enter Tryz.func82, Tryz.ntmps82
  go_wp2_with fail
  refine HO.out.mono ?_
  rintro e w1 ⟨v, rfl, hown, hb1⟩
  obtain ⟨ga, pv, hv, hga, -, hr1, hpv⟩ := hown.pos (by omega)
  rw [hBl] at hv hr1 hpv
  subst hv
  have HR1 := Lib.hid hr1
  clear hown hr1
  have hb2 : Below w1.heap.size w1 (w1.alloc (.cells #[.int .i64 (kk : Nat), .int .i64 (lv : Nat), .int .i64 (ct : Nat), .slice (some ⟨ga, 0, none⟩) 248 pv] 89)) := (Below.refl _ w1).alloc (Nat.le_refl _) _
  have hk2 : (w1.alloc (.cells #[.int .i64 (kk : Nat), .int .i64 (lv : Nat), .int .i64 (ct : Nat), .slice (some ⟨ga, 0, none⟩) 248 pv] 89)).heap[w1.heap.size]? = _ := alloc_new _ _ _ rfl
  go_wp2_with fail
  generalize (w1.alloc (.cells #[.int .i64 (kk : Nat), .int .i64 (lv : Nat), .int .i64 (ct : Nat), .slice (some ⟨ga, 0, none⟩) 248 pv] 89)) = w2 at *
  have hbb2 := below_then hb1 hb2 hb1.size
  have HR2 := Lib.hid (HR1.out.below hb2)
  have l2 := lt_of_block hk2
  have HK2 := Lib.hid hk2
  clear hk2
  refine (rzeros_any _ _ _ BD M _ HR2.out (by omega)).mono ?_
  rw [hz]
  rintro e w4 ⟨rfl, rfl⟩
  go_wp2
  exact bodyPost_ret (v := .tuple #[.slice none 0 0, .int .i64 4]) (by simp [results, Tryz.results82, go_sem]) rfl ⟨rfl, hbb2⟩
set_option maxRecDepth 100000 in
set_option maxHeartbeats 1600000 in
theorem rkids_open (a : Option Addr) (len cap : Nat) (l : List UInt8) (w : World) (hr : Rd w a len l) (hc : len ≤ cap) (he : P.openErr l ≠ 0) :
    Calls Tryz.prog 69 #[.slice a len cap] w fun e w' => e = .returned (.tuple #[.int .i64 0, .slice none 0 0, .int .i64 (P.openErr l)]) ∧ Below w.heap.size w w' := by
  have c1 : (P.openErr l != 0) = true := by simpa using he
  have HO := Lib.hid (ropen_fun a len cap l w hr hc)
  generalize P.openErr l = E at *
  clear hr he
  go_enter Tryz.func69, Tryz.ntmps69
  go_wp2_with fail
  refine HO.out.mono ?_
  rintro e w1 ⟨v, rfl, hown, hb1⟩
  obtain ⟨av, pv, hv, -, -, -, -⟩ := hown.form
  subst hv
  clear hown
  go_wp2
  exact bodyPost_ret (v := .tuple #[.int .i64 0, .slice none 0 0, .int .i64 E]) (by simp [results, Tryz.results69, go_sem]) rfl ⟨rfl, hb1.alloc hb1.size _⟩
set_option maxRecDepth 100000 in
set_option maxHeartbeats 1600000 in
theorem rkids_form (a : Option Addr) (len cap : Nat) (l : List UInt8) (w : World) (hr : Rd w a len l) (hc : len ≤ cap) (he : P.openErr l = 0) (hf : ¬ (P.openKind l = 2 ∧ (1 ≤ P.openLevel l ∧ P.openLevel l ≤ 32) ∧ 1 ≤ P.openCount l ∧ P.openCount l ≤ 12)) :
    Calls Tryz.prog 69 #[.slice a len cap] w fun e w' => e = .returned (.tuple #[.int .i64 0, .slice none 0 0, .int .i64 4]) ∧ Below w.heap.size w w' := by
  have HO := ropen_fun a len cap l w hr hc
  rw [he, show P.oK l = ((P.openKind l : Nat) : Int) by simp [P.oK, he], show P.oL l = ((P.openLevel l : Nat) : Int) by simp [P.oL, he], show P.oC l = ((P.openCount l : Nat) : Int) by simp [P.oC, he], show P.oB l = P.openBody l by simp [P.oB, he]] at HO
  have HO := Lib.hid HO
  have hBl := clbody_length he
  generalize P.openBody l = BD at *
  generalize P.openKind l = kk at *
  generalize P.openLevel l = lv at *
  generalize P.openCount l = ct at *
  clear hr he
  go_enter Tryz.func69, Tryz.ntmps69
  go_wp2_with fail
  refine HO.out.mono ?_
  rintro e w1 ⟨v, rfl, hown, hb1⟩
  obtain ⟨ga, pv, hv, hga, -, hr1, hpv⟩ := hown.pos (by omega)
  rw [hBl] at hv hr1 hpv
  subst hv
  have HR1 := Lib.hid hr1
  clear hown hr1
  have hb2 : Below w1.heap.size w1 (w1.alloc (.cells #[.int .i64 (kk : Nat), .int .i64 (lv : Nat), .int .i64 (ct : Nat), .slice (some ⟨ga, 0, none⟩) 248 pv] 89)) := (Below.refl _ w1).alloc (Nat.le_refl _) _
  have hk2 : (w1.alloc (.cells #[.int .i64 (kk : Nat), .int .i64 (lv : Nat), .int .i64 (ct : Nat), .slice (some ⟨ga, 0, none⟩) 248 pv] 89)).heap[w1.heap.size]? = _ := alloc_new _ _ _ rfl
  by_cases d1 : (kk : Int) = 2 <;> by_cases d2 : (lv : Int) < 1 <;> by_cases d3 : 32 < (lv : Int) <;> by_cases d4 : (ct : Int) < 1 <;> by_cases d5 : 12 < (ct : Int)
  all_goals
    first
      | (exfalso; omega)
      | (go_wp2_with fail
         all_goals
           first
             | (exfalso; omega)
             | (exact bodyPost_ret (v := .tuple #[.int .i64 0, .slice none 0 0, .int .i64 4]) (by simp [results, Tryz.results69, go_sem]) rfl ⟨rfl, hb1.alloc hb1.size _⟩))
set_option maxRecDepth 100000 in
set_option maxHeartbeats 1600000 in
theorem rkids_tail (a : Option Addr) (len cap : Nat) (l : List UInt8) (w : World) (hr : Rd w a len l) (hc : len ≤ cap) (he : P.openErr l = 0) (hk : P.openKind l = 2) (hv1 : 1 ≤ P.openLevel l) (hv2 : P.openLevel l ≤ 32) (hc1 : 1 ≤ P.openCount l) (hc2 : P.openCount l ≤ 12) (hz : P.zeros ((P.openBody l).drop (20 * P.openCount l)) = false) :
    Calls Tryz.prog 69 #[.slice a len cap] w fun e w' => e = .returned (.tuple #[.int .i64 0, .slice none 0 0, .int .i64 4]) ∧ Below w.heap.size w w' := by
  have HO := ropen_fun a len cap l w hr hc
  rw [he, show P.oK l = ((P.openKind l : Nat) : Int) by simp [P.oK, he], show P.oL l = ((P.openLevel l : Nat) : Int) by simp [P.oL, he], show P.oC l = ((P.openCount l : Nat) : Int) by simp [P.oC, he], show P.oB l = P.openBody l by simp [P.oB, he]] at HO
  have HO := Lib.hid HO
  have hBl := clbody_length he
  generalize P.openBody l = BD at *
  generalize P.openKind l = kk at *
  generalize P.openLevel l = lv at *
  generalize P.openCount l = ct at *
  clear hr he
  have t1 : ((kk : Int) != 2) = false := by simp [hk]
  have t2 : decide ((lv : Int) < 1) = false := decide_eq_false (by omega)
  have t3 : decide (32 < (lv : Int)) = false := decide_eq_false (by omega)
  have c1 : decide ((ct : Int) < 1) = false := decide_eq_false (by omega)
  have c2 : decide (12 < (ct : Int)) = false := decide_eq_false (by omega)
  obtain ⟨M, hM⟩ : ∃ M, M = 20 * ct := ⟨_, rfl⟩
  have hMl : M ≤ 240 := by omega
  have hM1 : 1 ≤ M := by omega
  have hmul : 20 * (ct : Int) = (M : Int) := by omega
  have i1 : (0 : Int) ≤ (M : Int) := by omega
  have i2 : (M : Int) ≤ 248 := by omega
  rw [← hM] at hz
  have HM := Lib.hid hM
  clear hk  hM
  go_enter Tryz.func69, Tryz.ntmps69
  go_wp2_with fail
  refine HO.out.mono ?_
  rintro e w1 ⟨v, rfl, hown, hb1⟩
  obtain ⟨ga, pv, hv, hga, -, hr1, hpv⟩ := hown.pos (by omega)
  rw [hBl] at hv hr1 hpv
  subst hv
  have HR1 := Lib.hid hr1
  clear hown hr1
  have hb2 : Below w1.heap.size w1 (w1.alloc (.cells #[.int .i64 (kk : Nat), .int .i64 (lv : Nat), .int .i64 (ct : Nat), .slice (some ⟨ga, 0, none⟩) 248 pv] 89)) := (Below.refl _ w1).alloc (Nat.le_refl _) _
  have hk2 : (w1.alloc (.cells #[.int .i64 (kk : Nat), .int .i64 (lv : Nat), .int .i64 (ct : Nat), .slice (some ⟨ga, 0, none⟩) 248 pv] 89)).heap[w1.heap.size]? = _ := alloc_new _ _ _ rfl
  go_wp2_with fail
  generalize (w1.alloc (.cells #[.int .i64 (kk : Nat), .int .i64 (lv : Nat), .int .i64 (ct : Nat), .slice (some ⟨ga, 0, none⟩) 248 pv] 89)) = w2 at *
  have hbb2 := below_then hb1 hb2 hb1.size
  have HR2 := Lib.hid (HR1.out.below hb2)
  have l2 := lt_of_block hk2
  have HK2 := Lib.hid hk2
  clear hk2
  refine (rzeros_any _ _ _ BD M _ HR2.out (by omega)).mono ?_
  rw [hz]
  rintro e w4 ⟨rfl, rfl⟩
  go_wp2
  exact bodyPost_ret (v := .tuple #[.int .i64 0, .slice none 0 0, .int .i64 4]) (by simp [results, Tryz.results69, go_sem]) rfl ⟨rfl, hbb2⟩
end Go.Proofs.YtnjpaanjgbfbaaaGreat
/- The walks of chapter 8: the reference's Pieces, Kids: the loop, pieces. Printed by gen_clm.py. -/
namespace Go.Proofs.YtnjpaanjgbfbaaaGreat
set_option linter.unusedVariables false
set_option linter.unusedSimpArgs false
open Go.RowKit

set_option maxRecDepth 100000 in
set_option maxHeartbeats 3200000 in
theorem rpieces_loop (a : Option Addr) (len cap : Nat) (l : List UInt8) (w : World) (hr : Rd w a len l) (hc : len ≤ cap) (he : P.openErr l = 0) (hk : P.openKind l = 3) (hv : P.openLevel l = 0) (hc1 : 1 ≤ P.openCount l) (hc2 : P.openCount l ≤ 20) (hz : P.zeros ((P.openBody l).drop (12 * P.openCount l)) = true) :
    Calls Tryz.prog 82 #[.slice a len cap] w fun e w' => ∃ v, e = .returned (.tuple #[v, .int .i64 (P.pcErr l)]) ∧ OV w' w.heap.size 59 4 v (P.pcL l).length (qCs (P.pcL l)) ∧ Below w.heap.size w w' := by
  have HO := ropen_fun a len cap l w hr hc
  rw [he, show P.oK l = ((P.openKind l : Nat) : Int) by simp [P.oK, he], show P.oL l = ((P.openLevel l : Nat) : Int) by simp [P.oL, he], show P.oC l = ((P.openCount l : Nat) : Int) by simp [P.oC, he], show P.oB l = P.openBody l by simp [P.oB, he]] at HO
  have HO := Lib.hid HO
  have hBl := clbody_length he
  have hG : (∀ i, i < P.openCount l → P.okP (P.chunk 12 (P.openBody l) i) = true) → P.pcErr l = 0 ∧ (P.pcL l).length = P.openCount l ∧ P.pcL l = P.cellsOf P.decP 12 (P.openBody l) (P.openCount l) := by
    intro h
    have hg : P.goodP l := ⟨hk, hv, hc1, hc2, hz, h⟩
    have e : P.pcErr l = 0 := by unfold P.pcErr; rw [if_neg (by simpa using he), if_pos hg]
    have e2 : P.pcL l = P.cellsOf P.decP 12 (P.openBody l) (P.openCount l) := by unfold P.pcL; rw [if_pos e]
    exact ⟨e, by rw [e2, P.cellsOf_length], e2⟩
  have hB : ∀ j, j < P.openCount l → P.okP (P.chunk 12 (P.openBody l) j) = false → P.pcErr l = 4 ∧ (P.pcL l).length = 0 ∧ P.pcL l = [] := by
    intro j hj h
    have hg : ¬ P.goodP l := fun g => by have := g.2.2.2.2.2 j hj; rw [h] at this; cases this
    have e : P.pcErr l = 4 := by unfold P.pcErr; rw [if_neg (by simpa using he), if_neg hg]
    have e2 : P.pcL l = [] := by unfold P.pcL; rw [if_neg (by omega)]
    exact ⟨e, by rw [e2]; rfl, e2⟩
  generalize P.pcErr l = E at *
  generalize P.pcL l = L at *
  generalize P.openBody l = BD at *
  generalize P.openKind l = kk at *
  generalize P.openLevel l = lv at *
  generalize P.openCount l = ct at *
  clear hr he
  have t1 : ((kk : Int) != 3) = false := by simp [hk]
  have t2 : ((lv : Int) != 0) = false := by simp [hv]
  have c1 : decide ((ct : Int) < 1) = false := decide_eq_false (by omega)
  have c2 : decide (20 < (ct : Int)) = false := decide_eq_false (by omega)
  obtain ⟨M, hM⟩ : ∃ M, M = 12 * ct := ⟨_, rfl⟩
  have hMl : M ≤ 240 := by omega
  have hM1 : 1 ≤ M := by omega
  have hmul : 12 * (ct : Int) = (M : Int) := by omega
  have i1 : (0 : Int) ≤ (M : Int) := by omega
  have i2 : (M : Int) ≤ 248 := by omega
  rw [← hM] at hz
  have HM := Lib.hid hM
  clear hk hv hM
  have HG := Lib.hid hG
  have HBAD := Lib.hid hB
  clear hG hB
  go_enter Tryz.func82, Tryz.ntmps82
  go_wp2_with fail
  refine HO.out.mono ?_
  rintro e w1 ⟨v, rfl, hown, hb1⟩
  obtain ⟨ga, pv, hv, hga, -, hr1, hpv⟩ := hown.pos (by omega)
  rw [hBl] at hv hr1 hpv
  subst hv
  have HR1 := Lib.hid hr1
  clear hown hr1
  have hb2 : Below w1.heap.size w1 (w1.alloc (.cells #[.int .i64 (kk : Nat), .int .i64 (lv : Nat), .int .i64 (ct : Nat), .slice (some ⟨ga, 0, none⟩) 248 pv] 89)) := (Below.refl _ w1).alloc (Nat.le_refl _) _
  have hk2 : (w1.alloc (.cells #[.int .i64 (kk : Nat), .int .i64 (lv : Nat), .int .i64 (ct : Nat), .slice (some ⟨ga, 0, none⟩) 248 pv] 89)).heap[w1.heap.size]? = _ := alloc_new _ _ _ rfl
  go_wp2_with fail
  generalize (w1.alloc (.cells #[.int .i64 (kk : Nat), .int .i64 (lv : Nat), .int .i64 (ct : Nat), .slice (some ⟨ga, 0, none⟩) 248 pv] 89)) = w2 at *
  have hbb2 := below_then hb1 hb2 hb1.size
  have HR2 := Lib.hid (HR1.out.below hb2)
  have l2 := lt_of_block hk2
  have HK2 := Lib.hid hk2
  clear hk2
  refine (rzeros_any _ _ _ BD M _ HR2.out (by omega)).mono ?_
  rw [hz]
  rintro e w2 ⟨rfl, rfl⟩
  go_wp2
  have gp0 := cell_blk HK2.out
  go_loopw [6, 7] (fun v i wr => ∃ j : Nat, j ≤ ct ∧ i = .int .i64 j ∧ (∃ a n c, v = .slice a n c) ∧ OV wr w2.heap.size 59 4 v j (qCs (P.cellsOf P.decP 12 BD j)) ∧ (∀ k, k < j → P.okP (P.chunk 12 BD k) = true) ∧ Below w2.heap.size w2 wr) (fun v i _ => ct - (intOf i).toNat)
  case atStart => exact ⟨0, by omega, rfl, ⟨_, _, _, rfl⟩, OV.nil _ _ _ _, fun k h => by omega, Below.refl _ _⟩
  case round =>
    obtain ⟨j, hj, rfl, ⟨av, nv, cv, rfl⟩, ho, hpre, hbr⟩ := hrel
    have HOV := Lib.hid ho
    have HPRE := Lib.hid hpre
    clear ho hpre gp0
    by_cases hlt : j < ct
    · obtain ⟨A, hA⟩ : ∃ A, A = 12 * j := ⟨_, rfl⟩
      have m1 : 12 * (j : Int) = (A : Int) := by omega
      have hA8 : A + 12 ≤ 240 := by omega
      have f1 : (0 : Int) ≤ (A : Int) := by omega
      have f2 : (A : Int) ≤ 248 := by omega
      have f5 : ¬ pv = A := by omega
      have gp := cell_blk ((hbr.block _ l2).trans HK2.out)
      have lw : w1.heap.size < wr.heap.size := by have := hbr.size; omega
      have hX : Rd wr (some ⟨ga, A, none⟩) (248 - A) (BD.drop A) := by
        have h := ((HR2.out.below hbr).drop A)
        rwa [add0 ga A] at h
      have hch : P.chunk 12 BD j = (BD.drop A).take 12 := by unfold P.chunk; rw [hA]
      obtain ⟨X, hXX⟩ : ∃ X, X = BD.drop A := ⟨_, rfl⟩
      rw [← hXX] at hX hch
      have hXl : X.length = 248 - A := hX.1
      have lsz : 12 ≤ X.length := by omega
      have hdx : P.decP (P.chunk 12 BD j) = P.decP X := by rw [hch]; exact P.decP_take X lsz
      have hokx := P.okP_take X lsz
      rw [← hch] at hokx
      have hbd := HBAD.out j hlt
      have hsn := P.cellsOf_snoc P.decP 12 BD j
      rw [hdx] at hsn
      have hp1 := fun (k : Nat) (hk : k < j + 1) (h : P.okP (P.chunk 12 BD j) = true) => show P.okP (P.chunk 12 BD k) = true by
        rcases Nat.lt_or_ge k j with h0 | h0
        · exact HPRE.out k h0
        · obtain rfl : k = j := by omega
          exact h
      have hx0 : wr.cell? ⟨ga, A + 10, none⟩ = some (bv X[10]) := by obtain ⟨p, e, h⟩ := hX.at 10 (by omega); cases e; exact h
      have hx1 : wr.cell? ⟨ga, A + 11, none⟩ = some (bv X[11]) := by obtain ⟨p, e, h⟩ := hX.at 11 (by omega); cases e; exact h
      have l10 : 10 < X.length := by omega
      have l11 : 11 < X.length := by omega
      obtain ⟨n0, hn0⟩ : ∃ n, n = (X[10]'l10).toNat := ⟨_, rfl⟩
      obtain ⟨n1, hn1⟩ : ∃ n, n = (X[11]'l11).toNat := ⟨_, rfl⟩
      have hz0 : X[10]'l10 = 0 ↔ n0 = 0 := by rw [hn0]; exact ⟨fun h => by rw [h]; rfl, fun h => UInt8.toNat_inj.1 h⟩
      have hz1 : X[11]'l11 = 0 ↔ n1 = 0 := by rw [hn1]; exact ⟨fun h => by rw [h]; rfl, fun h => UInt8.toNat_inj.1 h⟩
      have hkx : ∀ w', Below wr.heap.size wr w' → w'.cell? ⟨ga, A + 10, none⟩ = some (.int .u8 (n0 : Nat)) ∧ w'.cell? ⟨ga, A + 11, none⟩ = some (.int .u8 (n1 : Nat)) := fun w' h => by
        rw [hn0, hn1]
        exact ⟨(h.cell (p := ⟨ga, A + 10, none⟩) (lt_of_cell hx0)).trans hx0, (h.cell (p := ⟨ga, A + 11, none⟩) (lt_of_cell hx1)).trans hx1⟩
      clear hx0 hx1 hn0 hn1
      have HX := Lib.hid hX
      have HP1 := Lib.hid hp1
      have HBD := Lib.hid hbd
      have HKX := Lib.hid hkx
      have hmay := fun w => rmayP_any (⟨(P.get X 0 4).1, (P.get X 4 2).1, (P.get X 6 2).1, (P.get X 8 2).1⟩ : P.Q) w
      unfold qV at hmay
      simp only at hmay
      rw [show P.decP X = (⟨(P.get X 0 4).1, (P.get X 4 2).1, (P.get X 6 2).1, (P.get X 8 2).1⟩ : P.Q) from rfl] at hsn hokx
      obtain ⟨Mb, hMb⟩ : ∃ m, m = P.Q.mayP (⟨(P.get X 0 4).1, (P.get X 4 2).1, (P.get X 6 2).1, (P.get X 8 2).1⟩ : P.Q) := ⟨_, rfl⟩
      rw [← hMb] at hokx hmay
      have HSN := Lib.hid hsn
      have HOKX := Lib.hid hokx
      have HMAY := Lib.hid hmay
      clear hA hp1 hbd hsn hch hXX hdx hokx hX hXl hMb hmay hkx
      rcases Mb with _ | _
      case false =>
        have hok : P.okP (P.chunk 12 BD j) = false := by rw [HOKX.out]; rfl
        obtain ⟨z1, z2, z3⟩ := HBD.out hok
        go_wp2_with (go_at_call 65; refine (refget_any _ _ _ X _ _ _ HX.out (by omega)).mono ?_; rintro e w5 ⟨rfl, rfl⟩)
        generalize (P.get X 0 4).1 = qa at *
        generalize (P.get X 4 2).1 = qb at *
        generalize (P.get X 6 2).1 = qc at *
        generalize (P.get X 8 2).1 = qd at *
        have hbq : Below wr.heap.size wr (wr.alloc (.cells #[.int .i64 qa, .int .i64 qb, .int .i64 qc, .int .i64 qd] 59)) := (Below.refl _ wr).alloc (Nat.le_refl _) _
        have hkq : (wr.alloc (.cells #[.int .i64 qa, .int .i64 qb, .int .i64 qc, .int .i64 qd] 59)).heap[wr.heap.size]? = _ := alloc_new _ _ _ rfl
        generalize (wr.alloc (.cells #[.int .i64 qa, .int .i64 qb, .int .i64 qc, .int .i64 qd] 59)) = wq at *
        refine (HMAY.out _).mono ?_
        rintro e wm ⟨rfl, hbm⟩
        have lq := lt_of_block hkq
        have gq := cell_blk ((hbm.block _ lq).trans hkq)
        have hbqm := hbq.trans (hbm.mono hbq.size)
        have hbm2 := below_then hbr hbqm hbr.size
        have hbz := below_then hbb2 hbm2 hbb2.size
        have gp := cell_blk ((hbm2.block _ l2).trans HK2.out)
        have kx := HKX.out _ hbqm
        obtain ⟨y0, y1⟩ := kx
        clear hkq
        go_wp2
        go_ret2
        exact ⟨_, by rw [z1]; rfl, by rw [z2, z3]; exact OV.nil _ _ _ _, hbz⟩
      case true =>
        by_cases e0 : n0 = 0
        case neg =>
          have d0 : (((n0 : Nat) : Int) != 0) = true := by simp; omega
          have hok : P.okP (P.chunk 12 BD j) = false := by rw [HOKX.out]; simp [hz0, e0]
          obtain ⟨z1, z2, z3⟩ := HBD.out hok
          go_wp2_with (go_at_call 65; refine (refget_any _ _ _ X _ _ _ HX.out (by omega)).mono ?_; rintro e w5 ⟨rfl, rfl⟩)
          generalize (P.get X 0 4).1 = qa at *
          generalize (P.get X 4 2).1 = qb at *
          generalize (P.get X 6 2).1 = qc at *
          generalize (P.get X 8 2).1 = qd at *
          have hbq : Below wr.heap.size wr (wr.alloc (.cells #[.int .i64 qa, .int .i64 qb, .int .i64 qc, .int .i64 qd] 59)) := (Below.refl _ wr).alloc (Nat.le_refl _) _
          have hkq : (wr.alloc (.cells #[.int .i64 qa, .int .i64 qb, .int .i64 qc, .int .i64 qd] 59)).heap[wr.heap.size]? = _ := alloc_new _ _ _ rfl
          generalize (wr.alloc (.cells #[.int .i64 qa, .int .i64 qb, .int .i64 qc, .int .i64 qd] 59)) = wq at *
          refine (HMAY.out _).mono ?_
          rintro e wm ⟨rfl, hbm⟩
          have lq := lt_of_block hkq
          have gq := cell_blk ((hbm.block _ lq).trans hkq)
          have hbqm := hbq.trans (hbm.mono hbq.size)
          have hbm2 := below_then hbr hbqm hbr.size
          have hbz := below_then hbb2 hbm2 hbb2.size
          have gp := cell_blk ((hbm2.block _ l2).trans HK2.out)
          have kx := HKX.out _ hbqm
          obtain ⟨y0, y1⟩ := kx
          clear hkq
          go_wp2
          go_ret2
          exact ⟨_, by rw [z1]; rfl, by rw [z2, z3]; exact OV.nil _ _ _ _, hbz⟩
        case pos =>
          have d0 : (((n0 : Nat) : Int) != 0) = false := by simp [e0]
          by_cases e1 : n1 = 0
          case neg =>
            have d1 : (((n1 : Nat) : Int) != 0) = true := by simp; omega
            have E0 := Lib.hid e0
            clear e0
            have hok : P.okP (P.chunk 12 BD j) = false := by rw [HOKX.out]; simp [hz1, e1]
            obtain ⟨z1, z2, z3⟩ := HBD.out hok
            go_wp2_with (go_at_call 65; refine (refget_any _ _ _ X _ _ _ HX.out (by omega)).mono ?_; rintro e w5 ⟨rfl, rfl⟩)
            generalize (P.get X 0 4).1 = qa at *
            generalize (P.get X 4 2).1 = qb at *
            generalize (P.get X 6 2).1 = qc at *
            generalize (P.get X 8 2).1 = qd at *
            have hbq : Below wr.heap.size wr (wr.alloc (.cells #[.int .i64 qa, .int .i64 qb, .int .i64 qc, .int .i64 qd] 59)) := (Below.refl _ wr).alloc (Nat.le_refl _) _
            have hkq : (wr.alloc (.cells #[.int .i64 qa, .int .i64 qb, .int .i64 qc, .int .i64 qd] 59)).heap[wr.heap.size]? = _ := alloc_new _ _ _ rfl
            generalize (wr.alloc (.cells #[.int .i64 qa, .int .i64 qb, .int .i64 qc, .int .i64 qd] 59)) = wq at *
            refine (HMAY.out _).mono ?_
            rintro e wm ⟨rfl, hbm⟩
            have lq := lt_of_block hkq
            have gq := cell_blk ((hbm.block _ lq).trans hkq)
            have hbqm := hbq.trans (hbm.mono hbq.size)
            have hbm2 := below_then hbr hbqm hbr.size
            have hbz := below_then hbb2 hbm2 hbb2.size
            have gp := cell_blk ((hbm2.block _ l2).trans HK2.out)
            have kx := HKX.out _ hbqm
            obtain ⟨y0, y1⟩ := kx
            clear hkq
            go_wp2
            go_ret2
            exact ⟨_, by rw [z1]; rfl, by rw [z2, z3]; exact OV.nil _ _ _ _, hbz⟩
          case pos =>
            have d1 : (((n1 : Nat) : Int) != 0) = false := by simp [e1]
            have e01 : n0 = 0 ∧ n1 = 0 := ⟨e0, e1⟩
            have E01 := Lib.hid e01
            clear e0 e1 e01
            have hok : P.okP (P.chunk 12 BD j) = true := by rw [HOKX.out]; simp [hz0, hz1, E01.out.1, E01.out.2]
            go_wp2_with (go_at_call 65; refine (refget_any _ _ _ X _ _ _ HX.out (by omega)).mono ?_; rintro e w5 ⟨rfl, rfl⟩)
            generalize (P.get X 0 4).1 = qa at *
            generalize (P.get X 4 2).1 = qb at *
            generalize (P.get X 6 2).1 = qc at *
            generalize (P.get X 8 2).1 = qd at *
            have hbq : Below wr.heap.size wr (wr.alloc (.cells #[.int .i64 qa, .int .i64 qb, .int .i64 qc, .int .i64 qd] 59)) := (Below.refl _ wr).alloc (Nat.le_refl _) _
            have hkq : (wr.alloc (.cells #[.int .i64 qa, .int .i64 qb, .int .i64 qc, .int .i64 qd] 59)).heap[wr.heap.size]? = _ := alloc_new _ _ _ rfl
            generalize (wr.alloc (.cells #[.int .i64 qa, .int .i64 qb, .int .i64 qc, .int .i64 qd] 59)) = wq at *
            refine (HMAY.out _).mono ?_
            rintro e wm ⟨rfl, hbm⟩
            have lq := lt_of_block hkq
            have gq := cell_blk ((hbm.block _ lq).trans hkq)
            have hbqm := hbq.trans (hbm.mono hbq.size)
            have hbm2 := below_then hbr hbqm hbr.size
            have hbz := below_then hbb2 hbm2 hbb2.size
            have gp := cell_blk ((hbm2.block _ l2).trans HK2.out)
            have kx := HKX.out _ hbqm
            obtain ⟨y0, y1⟩ := kx
            clear hkq
            have hb5 : Below wm.heap.size wm (wm.alloc (.cells #[.int .i64 qa, .int .i64 qb, .int .i64 qc, .int .i64 qd] 59)) := (Below.refl _ wm).alloc (Nat.le_refl _) _
            have hrq : RV (wm.alloc (.cells #[.int .i64 qa, .int .i64 qb, .int .i64 qc, .int .i64 qd] 59)) (some ⟨wm.heap.size, 0, none⟩) 1 4 (qC ⟨qa, qb, qc, qd⟩) := RQ_one wm 59 ⟨qa, qb, qc, qd⟩
            have hbt := hbqm.trans (hb5.mono hbqm.size)
            have hst : w2.heap.size ≤ (wm.alloc (.cells #[.int .i64 qa, .int .i64 qb, .int .i64 qc, .int .i64 qd] 59)).heap.size := by have := hbm2.size; simp; omega
            have HRQ := Lib.hid hrq
            have HBT := Lib.hid hbt
            clear hrq hbt hb5
            go_wp2_with (at_builtin; refine wpList_appV piecesT _ rfl _ _ rfl w2.heap.size _ _ _ rfl (HOV.out.below HBT.out) _ _ _ _ rfl HRQ.out (qC_one _) ?c1 ?c2 hst ?_)
            case c1 => omega
            case c2 => omega
            intro v1 w6 hown1 hg1 hat1
            have hb6 : Below w2.heap.size w2 w6 := (HOV.out.below HBT.out).grown (below_then hbr HBT.out hbr.size) hst hg1
            rw [← qCs_snoc, ← HSN.out] at hown1
            obtain ⟨a1, c1, hv1, -, -, -, -⟩ := hown1.form
            subst hv1
            have HO1 := Lib.hid hown1
            clear hown1 hg1 hat1
            go_wp2
            go_roundw
            case rel => exact ⟨j + 1, by omega, by first | go_num | (simp; done), ⟨_, _, _, rfl⟩, HO1.out, fun k hk => HP1.out k hk hok, hb6⟩
            case measure => simp [intOf]; omega
    · obtain rfl : j = ct := by omega
      obtain ⟨g1, g2, g3⟩ := HG.out (fun i hi => HPRE.out i hi)
      have hbb := below_then hbb2 hbr hbb2.size
      have gp := cell_blk ((hbr.block _ l2).trans HK2.out)
      go_wp2
      go_ret2
      exact ⟨_, by rw [g1]; rfl, by rw [g2, g3]; exact HOV.out.mono hbb2.size, hbb⟩
end Go.Proofs.YtnjpaanjgbfbaaaGreat
/- The walks of chapter 8: the reference's Pieces, Kids: the loop, kids. Printed by gen_clm.py. -/
namespace Go.Proofs.YtnjpaanjgbfbaaaGreat
set_option linter.unusedVariables false
set_option linter.unusedSimpArgs false
open Go.RowKit

set_option maxRecDepth 100000 in
set_option maxHeartbeats 3200000 in
theorem rkids_loop (a : Option Addr) (len cap : Nat) (l : List UInt8) (w : World) (hr : Rd w a len l) (hc : len ≤ cap) (he : P.openErr l = 0) (hk : P.openKind l = 2) (hv1 : 1 ≤ P.openLevel l) (hv2 : P.openLevel l ≤ 32) (hc1 : 1 ≤ P.openCount l) (hc2 : P.openCount l ≤ 12) (hz : P.zeros ((P.openBody l).drop (20 * P.openCount l)) = true) :
    Calls Tryz.prog 69 #[.slice a len cap] w fun e w' => ∃ v, e = .returned (.tuple #[.int .i64 (P.kdV l), v, .int .i64 (P.kdErr l)]) ∧ OV w' w.heap.size 92 4 v (P.kdL l).length (qCs (P.kdL l)) ∧ Below w.heap.size w w' := by
  have HO := ropen_fun a len cap l w hr hc
  rw [he, show P.oK l = ((P.openKind l : Nat) : Int) by simp [P.oK, he], show P.oL l = ((P.openLevel l : Nat) : Int) by simp [P.oL, he], show P.oC l = ((P.openCount l : Nat) : Int) by simp [P.oC, he], show P.oB l = P.openBody l by simp [P.oB, he]] at HO
  have HO := Lib.hid HO
  have hBl := clbody_length he
  have hG : (∀ i, i < P.openCount l → P.okK (P.chunk 20 (P.openBody l) i) = true) → P.kdErr l = 0 ∧ (P.kdL l).length = P.openCount l ∧ P.kdL l = P.cellsOf P.decK 20 (P.openBody l) (P.openCount l) := by
    intro h
    have hg : P.goodK l := ⟨hk, hv1, hv2, hc1, hc2, hz, h⟩
    have e : P.kdErr l = 0 := by unfold P.kdErr; rw [if_neg (by simpa using he), if_pos hg]
    have e2 : P.kdL l = P.cellsOf P.decK 20 (P.openBody l) (P.openCount l) := by unfold P.kdL; rw [if_pos e]
    exact ⟨e, by rw [e2, P.cellsOf_length], e2⟩
  have hB : ∀ j, j < P.openCount l → P.okK (P.chunk 20 (P.openBody l) j) = false → P.kdErr l = 4 ∧ (P.kdL l).length = 0 ∧ P.kdL l = [] := by
    intro j hj h
    have hg : ¬ P.goodK l := fun g => by have := g.2.2.2.2.2.2 j hj; rw [h] at this; cases this
    have e : P.kdErr l = 4 := by unfold P.kdErr; rw [if_neg (by simpa using he), if_neg hg]
    have e2 : P.kdL l = [] := by unfold P.kdL; rw [if_neg (by omega)]
    exact ⟨e, by rw [e2]; rfl, e2⟩
  have hV : P.kdErr l = 0 → P.kdV l = ((P.openLevel l : Nat) : Int) := by intro h; unfold P.kdV; rw [if_pos h]
  have hV0 : P.kdErr l ≠ 0 → P.kdV l = 0 := by intro h; unfold P.kdV; rw [if_neg h]
  generalize P.kdV l = V at *
  generalize P.kdErr l = E at *
  generalize P.kdL l = L at *
  generalize P.openBody l = BD at *
  generalize P.openKind l = kk at *
  generalize P.openLevel l = lv at *
  generalize P.openCount l = ct at *
  clear hr he
  have t1 : ((kk : Int) != 2) = false := by simp [hk]
  have t2 : decide ((lv : Int) < 1) = false := decide_eq_false (by omega)
  have t3 : decide (32 < (lv : Int)) = false := decide_eq_false (by omega)
  have c1 : decide ((ct : Int) < 1) = false := decide_eq_false (by omega)
  have c2 : decide (12 < (ct : Int)) = false := decide_eq_false (by omega)
  obtain ⟨M, hM⟩ : ∃ M, M = 20 * ct := ⟨_, rfl⟩
  have hMl : M ≤ 240 := by omega
  have hM1 : 1 ≤ M := by omega
  have hmul : 20 * (ct : Int) = (M : Int) := by omega
  have i1 : (0 : Int) ≤ (M : Int) := by omega
  have i2 : (M : Int) ≤ 248 := by omega
  rw [← hM] at hz
  have HM := Lib.hid hM
  clear hk  hM
  have HG := Lib.hid hG
  have HBAD := Lib.hid hB
  clear hG hB
  have HV := Lib.hid hV
  have HV0 := Lib.hid hV0
  clear hV hV0
  go_enter Tryz.func69, Tryz.ntmps69
  go_wp2_with fail
  refine HO.out.mono ?_
  rintro e w1 ⟨v, rfl, hown, hb1⟩
  obtain ⟨ga, pv, hv, hga, -, hr1, hpv⟩ := hown.pos (by omega)
  rw [hBl] at hv hr1 hpv
  subst hv
  have HR1 := Lib.hid hr1
  clear hown hr1
  have hb2 : Below w1.heap.size w1 (w1.alloc (.cells #[.int .i64 (kk : Nat), .int .i64 (lv : Nat), .int .i64 (ct : Nat), .slice (some ⟨ga, 0, none⟩) 248 pv] 89)) := (Below.refl _ w1).alloc (Nat.le_refl _) _
  have hk2 : (w1.alloc (.cells #[.int .i64 (kk : Nat), .int .i64 (lv : Nat), .int .i64 (ct : Nat), .slice (some ⟨ga, 0, none⟩) 248 pv] 89)).heap[w1.heap.size]? = _ := alloc_new _ _ _ rfl
  go_wp2_with fail
  generalize (w1.alloc (.cells #[.int .i64 (kk : Nat), .int .i64 (lv : Nat), .int .i64 (ct : Nat), .slice (some ⟨ga, 0, none⟩) 248 pv] 89)) = w2 at *
  have hbb2 := below_then hb1 hb2 hb1.size
  have HR2 := Lib.hid (HR1.out.below hb2)
  have l2 := lt_of_block hk2
  have HK2 := Lib.hid hk2
  clear hk2
  refine (rzeros_any _ _ _ BD M _ HR2.out (by omega)).mono ?_
  rw [hz]
  rintro e w2 ⟨rfl, rfl⟩
  go_wp2
  have gp0 := cell_blk HK2.out
  go_loopw [7, 8] (fun v i wr => ∃ j : Nat, j ≤ ct ∧ i = .int .i64 j ∧ (∃ a n c, v = .slice a n c) ∧ OV wr w2.heap.size 92 4 v j (qCs (P.cellsOf P.decK 20 BD j)) ∧ (∀ k, k < j → P.okK (P.chunk 20 BD k) = true) ∧ Below w2.heap.size w2 wr) (fun v i _ => ct - (intOf i).toNat)
  case atStart => exact ⟨0, by omega, rfl, ⟨_, _, _, rfl⟩, OV.nil _ _ _ _, fun k h => by omega, Below.refl _ _⟩
  case round =>
    obtain ⟨j, hj, rfl, ⟨av, nv, cv, rfl⟩, ho, hpre, hbr⟩ := hrel
    have HOV := Lib.hid ho
    have HPRE := Lib.hid hpre
    clear ho hpre gp0
    by_cases hlt : j < ct
    · obtain ⟨A, hA⟩ : ∃ A, A = 20 * j := ⟨_, rfl⟩
      have m1 : 20 * (j : Int) = (A : Int) := by omega
      have hA8 : A + 20 ≤ 240 := by omega
      have f1 : (0 : Int) ≤ (A : Int) := by omega
      have f2 : (A : Int) ≤ 248 := by omega
      have f5 : ¬ pv = A := by omega
      have gp := cell_blk ((hbr.block _ l2).trans HK2.out)
      have lw : w1.heap.size < wr.heap.size := by have := hbr.size; omega
      have hX : Rd wr (some ⟨ga, A, none⟩) (248 - A) (BD.drop A) := by
        have h := ((HR2.out.below hbr).drop A)
        rwa [add0 ga A] at h
      have hch : P.chunk 20 BD j = (BD.drop A).take 20 := by unfold P.chunk; rw [hA]
      obtain ⟨X, hXX⟩ : ∃ X, X = BD.drop A := ⟨_, rfl⟩
      rw [← hXX] at hX hch
      have hXl : X.length = 248 - A := hX.1
      have lsz : 20 ≤ X.length := by omega
      have hdx : P.decK (P.chunk 20 BD j) = P.decK X := by rw [hch]; exact P.decK_take X lsz
      have hokx := P.okK_take X lsz
      rw [← hch] at hokx
      have hbd := HBAD.out j hlt
      have hsn := P.cellsOf_snoc P.decK 20 BD j
      rw [hdx] at hsn
      have hp1 := fun (k : Nat) (hk : k < j + 1) (h : P.okK (P.chunk 20 BD j) = true) => show P.okK (P.chunk 20 BD k) = true by
        rcases Nat.lt_or_ge k j with h0 | h0
        · exact HPRE.out k h0
        · obtain rfl : k = j := by omega
          exact h
      have hkx : True := trivial
      have HX := Lib.hid hX
      have HP1 := Lib.hid hp1
      have HBD := Lib.hid hbd
      have HKX := Lib.hid hkx
      have hmay := fun w => rmayK_any (⟨(P.get X 0 4).1, (P.get X 4 4).1, (P.get X 8 8).1, (P.get X 16 4).1⟩ : P.Q) w
      unfold qV at hmay
      simp only at hmay
      rw [show P.decK X = (⟨(P.get X 0 4).1, (P.get X 4 4).1, (P.get X 8 8).1, (P.get X 16 4).1⟩ : P.Q) from rfl] at hsn hokx
      obtain ⟨Mb, hMb⟩ : ∃ m, m = P.Q.mayK (⟨(P.get X 0 4).1, (P.get X 4 4).1, (P.get X 8 8).1, (P.get X 16 4).1⟩ : P.Q) := ⟨_, rfl⟩
      rw [← hMb] at hokx hmay
      have HSN := Lib.hid hsn
      have HOKX := Lib.hid hokx
      have HMAY := Lib.hid hmay
      clear hA hp1 hbd hsn hch hXX hdx hokx hX hXl hMb hmay hkx
      rcases Mb with _ | _
      case false =>
        have hok : P.okK (P.chunk 20 BD j) = false := by rw [HOKX.out]; skip
        obtain ⟨z1, z2, z3⟩ := HBD.out hok
        go_wp2_with (go_at_call 65; refine (refget_any _ _ _ X _ _ _ HX.out (by omega)).mono ?_; rintro e w5 ⟨rfl, rfl⟩)
        generalize (P.get X 0 4).1 = qa at *
        generalize (P.get X 4 4).1 = qb at *
        generalize (P.get X 8 8).1 = qc at *
        generalize (P.get X 16 4).1 = qd at *
        have hbq : Below wr.heap.size wr (wr.alloc (.cells #[.int .i64 qa, .int .i64 qb, .int .i64 qc, .int .i64 qd] 92)) := (Below.refl _ wr).alloc (Nat.le_refl _) _
        have hkq : (wr.alloc (.cells #[.int .i64 qa, .int .i64 qb, .int .i64 qc, .int .i64 qd] 92)).heap[wr.heap.size]? = _ := alloc_new _ _ _ rfl
        generalize (wr.alloc (.cells #[.int .i64 qa, .int .i64 qb, .int .i64 qc, .int .i64 qd] 92)) = wq at *
        refine (HMAY.out _).mono ?_
        rintro e wm ⟨rfl, hbm⟩
        have lq := lt_of_block hkq
        have gq := cell_blk ((hbm.block _ lq).trans hkq)
        have hbqm := hbq.trans (hbm.mono hbq.size)
        have hbm2 := below_then hbr hbqm hbr.size
        have hbz := below_then hbb2 hbm2 hbb2.size
        have gp := cell_blk ((hbm2.block _ l2).trans HK2.out)
        clear hkq
        go_wp2
        exact bodyPost_ret (v := .tuple #[.int .i64 0, .slice none 0 0, .int .i64 4]) (by simp [results, Tryz.results69, go_sem]) rfl ⟨_, by rw [z1, HV0.out (by rw [z1]; omega)], by rw [z2, z3]; exact OV.nil _ _ _ _, hbz⟩
      case true =>
        have hok : P.okK (P.chunk 20 BD j) = true := by rw [HOKX.out]; skip
        go_wp2_with (go_at_call 65; refine (refget_any _ _ _ X _ _ _ HX.out (by omega)).mono ?_; rintro e w5 ⟨rfl, rfl⟩)
        generalize (P.get X 0 4).1 = qa at *
        generalize (P.get X 4 4).1 = qb at *
        generalize (P.get X 8 8).1 = qc at *
        generalize (P.get X 16 4).1 = qd at *
        have hbq : Below wr.heap.size wr (wr.alloc (.cells #[.int .i64 qa, .int .i64 qb, .int .i64 qc, .int .i64 qd] 92)) := (Below.refl _ wr).alloc (Nat.le_refl _) _
        have hkq : (wr.alloc (.cells #[.int .i64 qa, .int .i64 qb, .int .i64 qc, .int .i64 qd] 92)).heap[wr.heap.size]? = _ := alloc_new _ _ _ rfl
        generalize (wr.alloc (.cells #[.int .i64 qa, .int .i64 qb, .int .i64 qc, .int .i64 qd] 92)) = wq at *
        refine (HMAY.out _).mono ?_
        rintro e wm ⟨rfl, hbm⟩
        have lq := lt_of_block hkq
        have gq := cell_blk ((hbm.block _ lq).trans hkq)
        have hbqm := hbq.trans (hbm.mono hbq.size)
        have hbm2 := below_then hbr hbqm hbr.size
        have hbz := below_then hbb2 hbm2 hbb2.size
        have gp := cell_blk ((hbm2.block _ l2).trans HK2.out)
        clear hkq
        have hb5 : Below wm.heap.size wm (wm.alloc (.cells #[.int .i64 qa, .int .i64 qb, .int .i64 qc, .int .i64 qd] 92)) := (Below.refl _ wm).alloc (Nat.le_refl _) _
        have hrq : RV (wm.alloc (.cells #[.int .i64 qa, .int .i64 qb, .int .i64 qc, .int .i64 qd] 92)) (some ⟨wm.heap.size, 0, none⟩) 1 4 (qC ⟨qa, qb, qc, qd⟩) := RQ_one wm 92 ⟨qa, qb, qc, qd⟩
        have hbt := hbqm.trans (hb5.mono hbqm.size)
        have hst : w2.heap.size ≤ (wm.alloc (.cells #[.int .i64 qa, .int .i64 qb, .int .i64 qc, .int .i64 qd] 92)).heap.size := by have := hbm2.size; simp; omega
        have HRQ := Lib.hid hrq
        have HBT := Lib.hid hbt
        clear hrq hbt hb5
        go_wp2_with (at_builtin; refine wpList_appV kidsT _ rfl _ _ rfl w2.heap.size _ _ _ rfl (HOV.out.below HBT.out) _ _ _ _ rfl HRQ.out (qC_one _) ?c1 ?c2 hst ?_)
        case c1 => omega
        case c2 => omega
        intro v1 w6 hown1 hg1 hat1
        have hb6 : Below w2.heap.size w2 w6 := (HOV.out.below HBT.out).grown (below_then hbr HBT.out hbr.size) hst hg1
        rw [← qCs_snoc, ← HSN.out] at hown1
        obtain ⟨a1, c1, hv1, -, -, -, -⟩ := hown1.form
        subst hv1
        have HO1 := Lib.hid hown1
        clear hown1 hg1 hat1
        go_wp2
        go_roundw
        case rel => exact ⟨j + 1, by omega, by first | go_num | (simp; done), ⟨_, _, _, rfl⟩, HO1.out, fun k hk => HP1.out k hk hok, hb6⟩
        case measure => simp [intOf]; omega
    · obtain rfl : j = ct := by omega
      obtain ⟨g1, g2, g3⟩ := HG.out (fun i hi => HPRE.out i hi)
      have hbb := below_then hbb2 hbr hbb2.size
      have gp := cell_blk ((hbr.block _ l2).trans HK2.out)
      go_wp2
      exact bodyPost_ret (v := .tuple #[.int .i64 (lv : Nat), .slice av nv cv, .int .i64 0]) (by simp [results, Tryz.results69, go_sem]) rfl ⟨_, by rw [g1, HV.out g1], by rw [g2, g3]; exact HOV.out.mono hbb2.size, hbb⟩
end Go.Proofs.YtnjpaanjgbfbaaaGreat
/- The walks of chapter 8: the reference's Pieces, Kids. Printed by gen_clm.py. -/
namespace Go.Proofs.YtnjpaanjgbfbaaaGreat
set_option linter.unusedVariables false
set_option linter.unusedSimpArgs false
open Go.RowKit

theorem rpieces_fun (a : Option Addr) (len cap : Nat) (l : List UInt8) (w : World) (hr : Rd w a len l) (hc : len ≤ cap) : Calls Tryz.prog 82 #[.slice a len cap] w fun e w' => ∃ v, e = .returned (.tuple #[v, .int .i64 (P.pcErr l)]) ∧ OV w' w.heap.size 59 4 v (P.pcL l).length (qCs (P.pcL l)) ∧ Below w.heap.size w w' := by
  by_cases he : P.openErr l = 0
  case neg =>
    have e1 : P.pcErr l = P.openErr l := by unfold P.pcErr; rw [if_pos he]
    have e2 : P.pcL l = [] := by unfold P.pcL; rw [if_neg (by omega)]
    
    rw [e1, e2]
    exact (rpieces_open a len cap l w hr hc he).mono fun e w' ⟨h1, h2⟩ => ⟨_, h1, OV.nil _ _ _ _, h2⟩
  have bad : ¬ P.goodP l → P.pcErr l = 4 ∧ P.pcL l = []  := fun h => by
    have e1 : P.pcErr l = 4 := by unfold P.pcErr; rw [if_neg (by simpa using he), if_neg h]
    have e2 : P.pcL l = [] := by unfold P.pcL; rw [if_neg (by omega)]
    exact ⟨e1, e2⟩
  by_cases hf : (P.openKind l = 3 ∧ P.openLevel l = 0 ∧ 1 ≤ P.openCount l ∧ P.openCount l ≤ 20)
  case neg =>
    obtain ⟨e1, e2⟩ := bad (fun h => hf ⟨h.1, h.2.1, h.2.2.1, h.2.2.2.1⟩)
    rw [e1, e2]
    exact (rpieces_form a len cap l w hr hc he hf).mono fun e w' ⟨h1, h2⟩ => ⟨_, h1, OV.nil _ _ _ _, h2⟩
  rcases hz : P.zeros ((P.openBody l).drop (12 * P.openCount l)) with _ | _
  · obtain ⟨e1, e2⟩ := bad (fun g => by have := g.2.2.2.2.1; rw [hz] at this; cases this)
    rw [e1, e2]
    exact (rpieces_tail a len cap l w hr hc he hf.1 hf.2.1 hf.2.2.1 hf.2.2.2 hz).mono fun e w' ⟨h1, h2⟩ => ⟨_, h1, OV.nil _ _ _ _, h2⟩
  · exact rpieces_loop a len cap l w hr hc he hf.1 hf.2.1 hf.2.2.1 hf.2.2.2 hz
theorem rkids_fun (a : Option Addr) (len cap : Nat) (l : List UInt8) (w : World) (hr : Rd w a len l) (hc : len ≤ cap) : Calls Tryz.prog 69 #[.slice a len cap] w fun e w' => ∃ v, e = .returned (.tuple #[.int .i64 (P.kdV l), v, .int .i64 (P.kdErr l)]) ∧ OV w' w.heap.size 92 4 v (P.kdL l).length (qCs (P.kdL l)) ∧ Below w.heap.size w w' := by
  by_cases he : P.openErr l = 0
  case neg =>
    have e1 : P.kdErr l = P.openErr l := by unfold P.kdErr; rw [if_pos he]
    have e2 : P.kdL l = [] := by unfold P.kdL; rw [if_neg (by omega)]
    have e3 : P.kdV l = 0 := by unfold P.kdV; rw [if_neg (by omega)]
    rw [e1, e2, e3]
    exact (rkids_open a len cap l w hr hc he).mono fun e w' ⟨h1, h2⟩ => ⟨_, h1, OV.nil _ _ _ _, h2⟩
  have bad : ¬ P.goodK l → P.kdErr l = 4 ∧ P.kdL l = [] ∧ P.kdV l = 0 := fun h => by
    have e1 : P.kdErr l = 4 := by unfold P.kdErr; rw [if_neg (by simpa using he), if_neg h]
    have e2 : P.kdL l = [] := by unfold P.kdL; rw [if_neg (by omega)]
    exact ⟨e1, e2, by unfold P.kdV; rw [if_neg (by omega)]⟩
  by_cases hf : (P.openKind l = 2 ∧ (1 ≤ P.openLevel l ∧ P.openLevel l ≤ 32) ∧ 1 ≤ P.openCount l ∧ P.openCount l ≤ 12)
  case neg =>
    obtain ⟨e1, e2, e3⟩ := bad (fun h => hf ⟨h.1, ⟨h.2.1, h.2.2.1⟩, h.2.2.2.1, h.2.2.2.2.1⟩)
    rw [e1, e2, e3]
    exact (rkids_form a len cap l w hr hc he hf).mono fun e w' ⟨h1, h2⟩ => ⟨_, h1, OV.nil _ _ _ _, h2⟩
  rcases hz : P.zeros ((P.openBody l).drop (20 * P.openCount l)) with _ | _
  · obtain ⟨e1, e2, e3⟩ := bad (fun g => by have := g.2.2.2.2.2.1; rw [hz] at this; cases this)
    rw [e1, e2, e3]
    exact (rkids_tail a len cap l w hr hc he hf.1 hf.2.1.1 hf.2.1.2 hf.2.2.1 hf.2.2.2 hz).mono fun e w' ⟨h1, h2⟩ => ⟨_, h1, OV.nil _ _ _ _, h2⟩
  · exact rkids_loop a len cap l w hr hc he hf.1 hf.2.1.1 hf.2.1.2 hf.2.2.1 hf.2.2.2 hz
end Go.Proofs.YtnjpaanjgbfbaaaGreat
