/- The walks of chapter 8: Pieces, Kids. Printed by gen_cll.py. -/
import Derived.Test.YtpdmhnppibfmkaaClI
namespace Go.Proofs.Ytpdmhnppibfmkaa
set_option linter.unusedVariables false
set_option linter.unusedSimpArgs false
open Go.RowKit

theorem clbody_length {l : List UInt8} (h : P.openErr l = 0) : (P.openBody l).length = 248 := by
  have := P.openErr_len l h
  simp [P.openBody]
  omega
theorem cellsP_fun (kk lv : Int) (ct ga pv : Nat) (BD : List UInt8) (w : World) (hr : Rd w (some ⟨ga, 0, none⟩) 248 BD) (hpv : 248 ≤ pv) (E : Int) (N : Nat) (L : List P.Q)
    (hG : 1 ≤ ct ∧ ct ≤ 20 ∧ P.zeros (BD.drop (12 * ct)) = true ∧ (∀ i, i < ct → P.okP (P.chunk 12 BD i) = true) → E = 0 ∧ N = ct ∧ L = P.cellsOf P.decP 12 BD ct)
    (hB : ¬ (1 ≤ ct ∧ ct ≤ 20 ∧ P.zeros (BD.drop (12 * ct)) = true ∧ (∀ i, i < ct → P.okP (P.chunk 12 BD i) = true)) → E = 4 ∧ N = 0 ∧ L = []) :
    Calls Try.prog 69 #[.agg #[.int .i64 kk, .int .i64 lv, .int .i64 (ct : Nat), .slice (some ⟨ga, 0, none⟩) 248 pv], .int .i64 20, .int .i64 12, .func (.func 70) #[] #[]] w fun e w' =>
      ∃ v, e = .returned (.tuple #[v, .int .i64 E]) ∧ OV w' w.heap.size 75 4 v N (qCs L) ∧ Below w.heap.size w w' := by
  by_cases hc : 1 ≤ ct ∧ ct ≤ 20
  case neg =>
    obtain ⟨z1, z2, z3⟩ := hB (fun h => hc ⟨h.1, h.2.1⟩)
    subst z1 z2 z3
    exact (cellsP_len kk lv ct ga pv BD w hr hpv (by omega)).mono fun e w' ⟨h1, h2⟩ => ⟨_, h1, OV.nil _ _ _ _, h2⟩
  rcases hz : P.zeros (BD.drop (12 * ct)) with _ | _
  · obtain ⟨z1, z2, z3⟩ := hB (fun h => by rw [hz] at h; cases h.2.2.1)
    subst z1 z2 z3
    exact (cellsP_tail kk lv ct ga pv BD w hr hpv hc hz).mono fun e w' ⟨h1, h2⟩ => ⟨_, h1, OV.nil _ _ _ _, h2⟩
  · exact cellsP_loop kk lv ct ga pv BD w hr hpv hc hz E N L (fun h => hG ⟨hc.1, hc.2, hz, h⟩) (fun j hj h => hB (fun hg => by rw [hg.2.2.2 j hj] at h; cases h))
theorem cellsK_fun (kk lv : Int) (ct ga pv : Nat) (BD : List UInt8) (w : World) (hr : Rd w (some ⟨ga, 0, none⟩) 248 BD) (hpv : 248 ≤ pv) (E : Int) (N : Nat) (L : List P.Q)
    (hG : 1 ≤ ct ∧ ct ≤ 12 ∧ P.zeros (BD.drop (20 * ct)) = true ∧ (∀ i, i < ct → P.okK (P.chunk 20 BD i) = true) → E = 0 ∧ N = ct ∧ L = P.cellsOf P.decK 20 BD ct)
    (hB : ¬ (1 ≤ ct ∧ ct ≤ 12 ∧ P.zeros (BD.drop (20 * ct)) = true ∧ (∀ i, i < ct → P.okK (P.chunk 20 BD i) = true)) → E = 4 ∧ N = 0 ∧ L = []) :
    Calls Try.prog 77 #[.agg #[.int .i64 kk, .int .i64 lv, .int .i64 (ct : Nat), .slice (some ⟨ga, 0, none⟩) 248 pv], .int .i64 12, .int .i64 20, .func (.func 78) #[] #[]] w fun e w' =>
      ∃ v, e = .returned (.tuple #[v, .int .i64 E]) ∧ OV w' w.heap.size 121 4 v N (qCs L) ∧ Below w.heap.size w w' := by
  by_cases hc : 1 ≤ ct ∧ ct ≤ 12
  case neg =>
    obtain ⟨z1, z2, z3⟩ := hB (fun h => hc ⟨h.1, h.2.1⟩)
    subst z1 z2 z3
    exact (cellsK_len kk lv ct ga pv BD w hr hpv (by omega)).mono fun e w' ⟨h1, h2⟩ => ⟨_, h1, OV.nil _ _ _ _, h2⟩
  rcases hz : P.zeros (BD.drop (20 * ct)) with _ | _
  · obtain ⟨z1, z2, z3⟩ := hB (fun h => by rw [hz] at h; cases h.2.2.1)
    subst z1 z2 z3
    exact (cellsK_tail kk lv ct ga pv BD w hr hpv hc hz).mono fun e w' ⟨h1, h2⟩ => ⟨_, h1, OV.nil _ _ _ _, h2⟩
  · exact cellsK_loop kk lv ct ga pv BD w hr hpv hc hz E N L (fun h => hG ⟨hc.1, hc.2, hz, h⟩) (fun j hj h => hB (fun hg => by rw [hg.2.2.2 j hj] at h; cases h))
set_option maxRecDepth 100000 in
set_option maxHeartbeats 1600000 in
theorem pieces_open (a : Option Addr) (len cap : Nat) (l : List UInt8) (w : World) (hr : Rd w a len l) (hc : len ≤ cap) (he : P.openErr l ≠ 0) :
    Calls Try.prog 32 #[.slice a len cap] w fun e w' => e = .returned (.tuple #[.slice none 0 0, .int .i64 (P.openErr l)]) ∧ Below w.heap.size w w' := by
  have c1 : (P.openErr l != 0) = true := by simpa using he
  have HO := Lib.hid (open_fun a len cap l w hr hc)
  generalize P.openErr l = E at *
  clear hr he
  go_enter Try.func32, Try.ntmps32
  go_wp2_with fail
  refine HO.out.mono ?_
  rintro e w1 ⟨v, rfl, hown, hb1⟩
  obtain ⟨av, pv, hv, -, -, -, -⟩ := hown.form
  subst hv
  clear hown
  go_wp2
  exact bodyPost_ret (v := .tuple #[.slice none 0 0, .int .i64 E]) (by simp [results, Try.results32, go_sem]) rfl ⟨rfl, hb1.alloc hb1.size _⟩
set_option maxRecDepth 100000 in
set_option maxHeartbeats 1600000 in
theorem pieces_form (a : Option Addr) (len cap : Nat) (l : List UInt8) (w : World) (hr : Rd w a len l) (hc : len ≤ cap) (he : P.openErr l = 0) (hf : ¬ (P.openKind l = 3 ∧ P.openLevel l = 0)) :
    Calls Try.prog 32 #[.slice a len cap] w fun e w' => e = .returned (.tuple #[.slice none 0 0, .int .i64 4]) ∧ Below w.heap.size w w' := by
  have HO := open_fun a len cap l w hr hc
  rw [he, show P.oK l = ((P.openKind l : Nat) : Int) by simp [P.oK, he], show P.oL l = ((P.openLevel l : Nat) : Int) by simp [P.oL, he], show P.oC l = ((P.openCount l : Nat) : Int) by simp [P.oC, he], show P.oB l = P.openBody l by simp [P.oB, he]] at HO
  have HO := Lib.hid HO
  have hBl := clbody_length he
  generalize P.openBody l = BD at *
  generalize P.openKind l = kk at *
  generalize P.openLevel l = lv at *
  generalize P.openCount l = ct at *
  clear hr he
  go_enter Try.func32, Try.ntmps32
  go_wp2_with fail
  refine HO.out.mono ?_
  rintro e w1 ⟨v, rfl, hown, hb1⟩
  obtain ⟨ga, pv, hv, hga, -, hr1, hpv⟩ := hown.pos (by omega)
  rw [hBl] at hv hr1 hpv
  subst hv
  have HR1 := Lib.hid hr1
  clear hown hr1
  have hb2 : Below w1.heap.size w1 (w1.alloc (.cells #[.int .i64 (kk : Nat), .int .i64 (lv : Nat), .int .i64 (ct : Nat), .slice (some ⟨ga, 0, none⟩) 248 pv] 42)) := (Below.refl _ w1).alloc (Nat.le_refl _) _
  have hk2 : (w1.alloc (.cells #[.int .i64 (kk : Nat), .int .i64 (lv : Nat), .int .i64 (ct : Nat), .slice (some ⟨ga, 0, none⟩) 248 pv] 42)).heap[w1.heap.size]? = _ := alloc_new _ _ _ rfl
  by_cases d1 : (kk : Int) = 3 <;> by_cases d2 : (lv : Int) = 0
  all_goals
    go_wp2_with fail
    all_goals
      first
        | (exfalso; omega)
        | (exact bodyPost_ret (v := .tuple #[.slice none 0 0, .int .i64 4]) (by simp [results, Try.results32, go_sem]) rfl ⟨rfl, hb1.alloc hb1.size _⟩)
set_option maxRecDepth 100000 in
set_option maxHeartbeats 1600000 in
theorem pieces_cells (a : Option Addr) (len cap : Nat) (l : List UInt8) (w : World) (hr : Rd w a len l) (hc : len ≤ cap) (he : P.openErr l = 0) (hk : P.openKind l = 3) (hv : P.openLevel l = 0) :
    Calls Try.prog 32 #[.slice a len cap] w fun e w' => ∃ v, e = .returned (.tuple #[v, .int .i64 (P.pcErr l)]) ∧ OV w' w.heap.size 75 4 v (P.pcL l).length (qCs (P.pcL l)) ∧ Below w.heap.size w w' := by
  have HO := open_fun a len cap l w hr hc
  rw [he, show P.oK l = ((P.openKind l : Nat) : Int) by simp [P.oK, he], show P.oL l = ((P.openLevel l : Nat) : Int) by simp [P.oL, he], show P.oC l = ((P.openCount l : Nat) : Int) by simp [P.oC, he], show P.oB l = P.openBody l by simp [P.oB, he]] at HO
  have HO := Lib.hid HO
  have hBl := clbody_length he
  have hG : 1 ≤ P.openCount l ∧ P.openCount l ≤ 20 ∧ P.zeros ((P.openBody l).drop (12 * P.openCount l)) = true ∧ (∀ i, i < P.openCount l → P.okP (P.chunk 12 (P.openBody l) i) = true) →
      P.pcErr l = 0 ∧ (P.pcL l).length = P.openCount l ∧ P.pcL l = P.cellsOf P.decP 12 (P.openBody l) (P.openCount l) := by
    intro h
    have hg : P.goodP l := ⟨hk, hv, h.1, h.2.1, h.2.2.1, h.2.2.2⟩
    have e : P.pcErr l = 0 := by unfold P.pcErr; rw [if_neg (by simpa using he), if_pos hg]
    have e2 : P.pcL l = P.cellsOf P.decP 12 (P.openBody l) (P.openCount l) := by unfold P.pcL; rw [if_pos e]
    exact ⟨e, by rw [e2, P.cellsOf_length], e2⟩
  have hB : ¬ (1 ≤ P.openCount l ∧ P.openCount l ≤ 20 ∧ P.zeros ((P.openBody l).drop (12 * P.openCount l)) = true ∧ (∀ i, i < P.openCount l → P.okP (P.chunk 12 (P.openBody l) i) = true)) →
      P.pcErr l = 4 ∧ (P.pcL l).length = 0 ∧ P.pcL l = [] := by
    intro h
    have hg : ¬ P.goodP l := fun g => h ⟨g.2.2.1, g.2.2.2.1, g.2.2.2.2.1, g.2.2.2.2.2⟩
    have e : P.pcErr l = 4 := by unfold P.pcErr; rw [if_neg (by simpa using he), if_neg hg]
    have e2 : P.pcL l = [] := by unfold P.pcL; rw [if_neg (by omega)]
    exact ⟨e, by rw [e2]; rfl, e2⟩
  generalize P.pcErr l = E at *
  generalize P.pcL l = L at *
  generalize P.openBody l = BD at *
  generalize P.openKind l = kk at *
  generalize P.openLevel l = lv at *
  generalize P.openCount l = ct at *
  clear hr he
  have t1 : ((kk : Int) != 3) = false := by simp [hk]
  have t2 : ((lv : Int) != 0) = false := by simp [hv]
  clear hk hv
  have HG := Lib.hid hG
  have HB := Lib.hid hB
  clear hG hB
  go_enter Try.func32, Try.ntmps32
  go_wp2_with fail
  refine HO.out.mono ?_
  rintro e w1 ⟨v, rfl, hown, hb1⟩
  obtain ⟨ga, pv, hv, hga, -, hr1, hpv⟩ := hown.pos (by omega)
  rw [hBl] at hv hr1 hpv
  subst hv
  have HR1 := Lib.hid hr1
  clear hown hr1
  have hb2 : Below w1.heap.size w1 (w1.alloc (.cells #[.int .i64 (kk : Nat), .int .i64 (lv : Nat), .int .i64 (ct : Nat), .slice (some ⟨ga, 0, none⟩) 248 pv] 42)) := (Below.refl _ w1).alloc (Nat.le_refl _) _
  have hk2 : (w1.alloc (.cells #[.int .i64 (kk : Nat), .int .i64 (lv : Nat), .int .i64 (ct : Nat), .slice (some ⟨ga, 0, none⟩) 248 pv] 42)).heap[w1.heap.size]? = _ := alloc_new _ _ _ rfl
  go_wp2_with fail
  generalize (w1.alloc (.cells #[.int .i64 (kk : Nat), .int .i64 (lv : Nat), .int .i64 (ct : Nat), .slice (some ⟨ga, 0, none⟩) 248 pv] 42)) = w2 at *
  have hbb2 := below_then hb1 hb2 hb1.size
  have l2 := lt_of_block hk2
  refine (cellsP_fun _ _ ct ga pv BD w2 (HR1.out.below hb2) hpv E L.length L HG.out HB.out).mono ?_
  rintro e w3 ⟨v3, rfl, ho3, hb3⟩
  obtain ⟨a3, c3, hv3, -, -, -, -⟩ := ho3.form
  subst hv3
  have HO3 := Lib.hid (ho3.mono hbb2.size)
  have hbb3 := below_then hbb2 hb3 hbb2.size
  have gp := cell_blk ((hb3.block _ l2).trans hk2)
  have l3 : w1.heap.size < w3.heap.size := by have := hb3.size; omega
  clear ho3 hk2
  go_wp2
  go_ret2
  exact ⟨_, rfl, HO3.out, hbb3⟩
theorem pieces_fun (a : Option Addr) (len cap : Nat) (l : List UInt8) (w : World) (hr : Rd w a len l) (hc : len ≤ cap) :
    Calls Try.prog 32 #[.slice a len cap] w fun e w' => ∃ v, e = .returned (.tuple #[v, .int .i64 (P.pcErr l)]) ∧ OV w' w.heap.size 75 4 v (P.pcL l).length (qCs (P.pcL l)) ∧ Below w.heap.size w w' := by
  by_cases he : P.openErr l = 0
  case neg =>
    have e1 : P.pcErr l = P.openErr l := by unfold P.pcErr; rw [if_pos he]
    have e2 : P.pcL l = [] := by unfold P.pcL; rw [if_neg (by omega)]
    
    rw [e1, e2]
    exact (pieces_open a len cap l w hr hc he).mono fun e w' ⟨h1, h2⟩ => ⟨_, h1, OV.nil _ _ _ _, h2⟩
  by_cases hf : (P.openKind l = 3 ∧ P.openLevel l = 0)
  case neg =>
    have e1 : P.pcErr l = 4 := by unfold P.pcErr; rw [if_neg (by simpa using he), if_neg (fun h => hf ⟨h.1, h.2.1⟩)]
    have e2 : P.pcL l = [] := by unfold P.pcL; rw [if_neg (by omega)]
    
    rw [e1, e2]
    exact (pieces_form a len cap l w hr hc he hf).mono fun e w' ⟨h1, h2⟩ => ⟨_, h1, OV.nil _ _ _ _, h2⟩
  exact pieces_cells a len cap l w hr hc he hf.1 hf.2
set_option maxRecDepth 100000 in
set_option maxHeartbeats 1600000 in
theorem kids_open (a : Option Addr) (len cap : Nat) (l : List UInt8) (w : World) (hr : Rd w a len l) (hc : len ≤ cap) (he : P.openErr l ≠ 0) :
    Calls Try.prog 45 #[.slice a len cap] w fun e w' => e = .returned (.tuple #[.int .i64 0, .slice none 0 0, .int .i64 (P.openErr l)]) ∧ Below w.heap.size w w' := by
  have c1 : (P.openErr l != 0) = true := by simpa using he
  have HO := Lib.hid (open_fun a len cap l w hr hc)
  generalize P.openErr l = E at *
  clear hr he
  go_enter Try.func45, Try.ntmps45
  go_wp2_with fail
  refine HO.out.mono ?_
  rintro e w1 ⟨v, rfl, hown, hb1⟩
  obtain ⟨av, pv, hv, -, -, -, -⟩ := hown.form
  subst hv
  clear hown
  go_wp2
  exact bodyPost_ret (v := .tuple #[.int .i64 0, .slice none 0 0, .int .i64 E]) (by simp [results, Try.results45, go_sem]) rfl ⟨rfl, hb1.alloc hb1.size _⟩
set_option maxRecDepth 100000 in
set_option maxHeartbeats 1600000 in
theorem kids_form (a : Option Addr) (len cap : Nat) (l : List UInt8) (w : World) (hr : Rd w a len l) (hc : len ≤ cap) (he : P.openErr l = 0) (hf : ¬ (P.openKind l = 2 ∧ 1 ≤ P.openLevel l ∧ P.openLevel l ≤ 32)) :
    Calls Try.prog 45 #[.slice a len cap] w fun e w' => e = .returned (.tuple #[.int .i64 0, .slice none 0 0, .int .i64 4]) ∧ Below w.heap.size w w' := by
  have HO := open_fun a len cap l w hr hc
  rw [he, show P.oK l = ((P.openKind l : Nat) : Int) by simp [P.oK, he], show P.oL l = ((P.openLevel l : Nat) : Int) by simp [P.oL, he], show P.oC l = ((P.openCount l : Nat) : Int) by simp [P.oC, he], show P.oB l = P.openBody l by simp [P.oB, he]] at HO
  have HO := Lib.hid HO
  have hBl := clbody_length he
  generalize P.openBody l = BD at *
  generalize P.openKind l = kk at *
  generalize P.openLevel l = lv at *
  generalize P.openCount l = ct at *
  clear hr he
  go_enter Try.func45, Try.ntmps45
  go_wp2_with fail
  refine HO.out.mono ?_
  rintro e w1 ⟨v, rfl, hown, hb1⟩
  obtain ⟨ga, pv, hv, hga, -, hr1, hpv⟩ := hown.pos (by omega)
  rw [hBl] at hv hr1 hpv
  subst hv
  have HR1 := Lib.hid hr1
  clear hown hr1
  have hb2 : Below w1.heap.size w1 (w1.alloc (.cells #[.int .i64 (kk : Nat), .int .i64 (lv : Nat), .int .i64 (ct : Nat), .slice (some ⟨ga, 0, none⟩) 248 pv] 42)) := (Below.refl _ w1).alloc (Nat.le_refl _) _
  have hk2 : (w1.alloc (.cells #[.int .i64 (kk : Nat), .int .i64 (lv : Nat), .int .i64 (ct : Nat), .slice (some ⟨ga, 0, none⟩) 248 pv] 42)).heap[w1.heap.size]? = _ := alloc_new _ _ _ rfl
  by_cases d1 : (kk : Int) = 2 <;> by_cases d2 : (lv : Int) < 1 <;> by_cases d3 : 32 < (lv : Int)
  all_goals
    go_wp2_with fail
    all_goals
      first
        | (exfalso; omega)
        | (exact bodyPost_ret (v := .tuple #[.int .i64 0, .slice none 0 0, .int .i64 4]) (by simp [results, Try.results45, go_sem]) rfl ⟨rfl, hb1.alloc hb1.size _⟩)
set_option maxRecDepth 100000 in
set_option maxHeartbeats 1600000 in
theorem kids_cells (a : Option Addr) (len cap : Nat) (l : List UInt8) (w : World) (hr : Rd w a len l) (hc : len ≤ cap) (he : P.openErr l = 0) (hk : P.openKind l = 2) (hv1 : 1 ≤ P.openLevel l) (hv2 : P.openLevel l ≤ 32) :
    Calls Try.prog 45 #[.slice a len cap] w fun e w' => ∃ v, e = .returned (.tuple #[.int .i64 (P.kdV l), v, .int .i64 (P.kdErr l)]) ∧ OV w' w.heap.size 121 4 v (P.kdL l).length (qCs (P.kdL l)) ∧ Below w.heap.size w w' := by
  have HO := open_fun a len cap l w hr hc
  rw [he, show P.oK l = ((P.openKind l : Nat) : Int) by simp [P.oK, he], show P.oL l = ((P.openLevel l : Nat) : Int) by simp [P.oL, he], show P.oC l = ((P.openCount l : Nat) : Int) by simp [P.oC, he], show P.oB l = P.openBody l by simp [P.oB, he]] at HO
  have HO := Lib.hid HO
  have hBl := clbody_length he
  have hG : 1 ≤ P.openCount l ∧ P.openCount l ≤ 12 ∧ P.zeros ((P.openBody l).drop (20 * P.openCount l)) = true ∧ (∀ i, i < P.openCount l → P.okK (P.chunk 20 (P.openBody l) i) = true) →
      P.kdErr l = 0 ∧ (P.kdL l).length = P.openCount l ∧ P.kdL l = P.cellsOf P.decK 20 (P.openBody l) (P.openCount l) := by
    intro h
    have hg : P.goodK l := ⟨hk, hv1, hv2, h.1, h.2.1, h.2.2.1, h.2.2.2⟩
    have e : P.kdErr l = 0 := by unfold P.kdErr; rw [if_neg (by simpa using he), if_pos hg]
    have e2 : P.kdL l = P.cellsOf P.decK 20 (P.openBody l) (P.openCount l) := by unfold P.kdL; rw [if_pos e]
    exact ⟨e, by rw [e2, P.cellsOf_length], e2⟩
  have hB : ¬ (1 ≤ P.openCount l ∧ P.openCount l ≤ 12 ∧ P.zeros ((P.openBody l).drop (20 * P.openCount l)) = true ∧ (∀ i, i < P.openCount l → P.okK (P.chunk 20 (P.openBody l) i) = true)) →
      P.kdErr l = 4 ∧ (P.kdL l).length = 0 ∧ P.kdL l = [] := by
    intro h
    have hg : ¬ P.goodK l := fun g => h ⟨g.2.2.2.1, g.2.2.2.2.1, g.2.2.2.2.2.1, g.2.2.2.2.2.2⟩
    have e : P.kdErr l = 4 := by unfold P.kdErr; rw [if_neg (by simpa using he), if_neg hg]
    have e2 : P.kdL l = [] := by unfold P.kdL; rw [if_neg (by omega)]
    exact ⟨e, by rw [e2]; rfl, e2⟩
  have hV : P.kdErr l = 0 → P.kdV l = ((P.openLevel l : Nat) : Int) := by intro h; unfold P.kdV; rw [if_pos h]
  have hV0 : P.kdErr l ≠ 0 → P.kdV l = 0 := by intro h; unfold P.kdV; rw [if_neg h]
  generalize P.kdV l = V at *
  generalize P.kdErr l = E at *
  generalize P.kdL l = L at *
  generalize P.openBody l = BD at *
  generalize P.openKind l = kk at *
  generalize P.openLevel l = lv at *
  generalize P.openCount l = ct at *
  clear hr he
  have t1 : ((kk : Int) != 2) = false := by simp [hk]
  have t2 : decide ((lv : Int) < 1) = false := decide_eq_false (by omega)
  have t3 : decide (32 < (lv : Int)) = false := decide_eq_false (by omega)
  clear hk 
  have HG := Lib.hid hG
  have HB := Lib.hid hB
  clear hG hB
  have HV := Lib.hid hV
  have HV0 := Lib.hid hV0
  clear hV hV0
  go_enter Try.func45, Try.ntmps45
  go_wp2_with fail
  refine HO.out.mono ?_
  rintro e w1 ⟨v, rfl, hown, hb1⟩
  obtain ⟨ga, pv, hv, hga, -, hr1, hpv⟩ := hown.pos (by omega)
  rw [hBl] at hv hr1 hpv
  subst hv
  have HR1 := Lib.hid hr1
  clear hown hr1
  have hb2 : Below w1.heap.size w1 (w1.alloc (.cells #[.int .i64 (kk : Nat), .int .i64 (lv : Nat), .int .i64 (ct : Nat), .slice (some ⟨ga, 0, none⟩) 248 pv] 42)) := (Below.refl _ w1).alloc (Nat.le_refl _) _
  have hk2 : (w1.alloc (.cells #[.int .i64 (kk : Nat), .int .i64 (lv : Nat), .int .i64 (ct : Nat), .slice (some ⟨ga, 0, none⟩) 248 pv] 42)).heap[w1.heap.size]? = _ := alloc_new _ _ _ rfl
  go_wp2_with fail
  generalize (w1.alloc (.cells #[.int .i64 (kk : Nat), .int .i64 (lv : Nat), .int .i64 (ct : Nat), .slice (some ⟨ga, 0, none⟩) 248 pv] 42)) = w2 at *
  have hbb2 := below_then hb1 hb2 hb1.size
  have l2 := lt_of_block hk2
  refine (cellsK_fun _ _ ct ga pv BD w2 (HR1.out.below hb2) hpv E L.length L HG.out HB.out).mono ?_
  rintro e w3 ⟨v3, rfl, ho3, hb3⟩
  obtain ⟨a3, c3, hv3, -, -, -, -⟩ := ho3.form
  subst hv3
  have HO3 := Lib.hid (ho3.mono hbb2.size)
  have hbb3 := below_then hbb2 hb3 hbb2.size
  have gp := cell_blk ((hb3.block _ l2).trans hk2)
  have l3 : w1.heap.size < w3.heap.size := by have := hb3.size; omega
  clear ho3 hk2
  by_cases hE : E = 0
  · have d1 : (E != 0) = false := by simp [hE]
    have hv := HV.out hE
    have HE := Lib.hid hE
    have HVV := Lib.hid hv
    clear hE hv
    go_wp2
    exact bodyPost_ret (v := .tuple #[.int .i64 (lv : Nat), .slice a3 L.length c3, .int .i64 0]) (by simp [results, Try.results45, go_sem]) rfl ⟨_, by rw [HE.out, HVV.out], HO3.out, hbb3⟩
  · have d1 : (E != 0) = true := by simpa using hE
    have hv := HV0.out hE
    have e4 := HB.out (fun h => hE (HG.out h).1)
    have HVV := Lib.hid hv
    have HE4 := Lib.hid e4
    clear hE hv e4
    go_wp2
    exact bodyPost_ret (v := .tuple #[.int .i64 0, .slice none 0 0, .int .i64 E]) (by simp [results, Try.results45, go_sem]) rfl ⟨_, by rw [HVV.out], by rw [HE4.out.2.2]; exact OV.nil _ _ _ _, hbb3⟩
theorem kids_fun (a : Option Addr) (len cap : Nat) (l : List UInt8) (w : World) (hr : Rd w a len l) (hc : len ≤ cap) :
    Calls Try.prog 45 #[.slice a len cap] w fun e w' => ∃ v, e = .returned (.tuple #[.int .i64 (P.kdV l), v, .int .i64 (P.kdErr l)]) ∧ OV w' w.heap.size 121 4 v (P.kdL l).length (qCs (P.kdL l)) ∧ Below w.heap.size w w' := by
  by_cases he : P.openErr l = 0
  case neg =>
    have e1 : P.kdErr l = P.openErr l := by unfold P.kdErr; rw [if_pos he]
    have e2 : P.kdL l = [] := by unfold P.kdL; rw [if_neg (by omega)]
    have e3 : P.kdV l = 0 := by unfold P.kdV; rw [if_neg (by omega)]
    rw [e1, e2, e3]
    exact (kids_open a len cap l w hr hc he).mono fun e w' ⟨h1, h2⟩ => ⟨_, h1, OV.nil _ _ _ _, h2⟩
  by_cases hf : (P.openKind l = 2 ∧ 1 ≤ P.openLevel l ∧ P.openLevel l ≤ 32)
  case neg =>
    have e1 : P.kdErr l = 4 := by unfold P.kdErr; rw [if_neg (by simpa using he), if_neg (fun h => hf ⟨h.1, h.2.1, h.2.2.1⟩)]
    have e2 : P.kdL l = [] := by unfold P.kdL; rw [if_neg (by omega)]
    have e3 : P.kdV l = 0 := by unfold P.kdV; rw [if_neg (by omega)]
    rw [e1, e2, e3]
    exact (kids_form a len cap l w hr hc he hf).mono fun e w' ⟨h1, h2⟩ => ⟨_, h1, OV.nil _ _ _ _, h2⟩
  exact kids_cells a len cap l w hr hc he hf.1 hf.2.1 hf.2.2
end Go.Proofs.Ytpdmhnppibfmkaa
