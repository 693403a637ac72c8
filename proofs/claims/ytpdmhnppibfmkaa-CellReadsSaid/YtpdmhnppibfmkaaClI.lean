/- The walk of chapter 8: cells. Printed by gen_cli.py. -/
import Derived.Test.YtpdmhnppibfmkaaClK
namespace Go.Proofs.Ytpdmhnppibfmkaa
set_option linter.unusedVariables false
set_option linter.unusedSimpArgs false
open Go.RowKit

theorem piecesT : SlT 50 75 4 32 := ⟨Try.underlying50, ⟨.agg #[.int .i64 0, .int .i64 0, .int .i64 0, .int .i64 0], by kernel_rfl, rfl⟩, by omega⟩
theorem kidsT : SlT 78 121 4 32 := ⟨Try.underlying78, ⟨.agg #[.int .i64 0, .int .i64 0, .int .i64 0, .int .i64 0], by kernel_rfl, rfl⟩, by omega⟩
theorem add0 (g n : Nat) : (⟨g, 0, none⟩ : Addr).add n = ⟨g, n, none⟩ := by unfold Addr.add; split <;> simp_all
theorem qC_one (x : P.Q) : ∀ u ∈ qC x, u.oneCell' = true := by
  intro u hu
  simp only [qC, List.mem_cons, List.not_mem_nil, or_false] at hu
  rcases hu with rfl | rfl | rfl | rfl <;> rfl
theorem qCs_snoc (l : List P.Q) (x : P.Q) : qCs (l ++ [x]) = qCs l ++ qC x := by simp [qCs]
theorem RQ_one (w : World) (t : TypeId) (x : P.Q) : RV (w.alloc (.cells #[.int .i64 x.a, .int .i64 x.b, .int .i64 x.c, .int .i64 x.d] t)) (some ⟨w.heap.size, 0, none⟩) 1 4 (qC x) := RV_lit w t 1 4 (qC x) rfl (by unfold maxLen; omega)

set_option maxRecDepth 100000 in
set_option maxHeartbeats 1600000 in
theorem cellsP_len (kk lv : Int) (ct ga pv : Nat) (BD : List UInt8) (w : World) (hr : Rd w (some ⟨ga, 0, none⟩) 248 BD) (hpv : 248 ≤ pv) (hc : ct < 1 ∨ 20 < ct) :
    Calls Try.prog 69 #[.agg #[.int .i64 kk, .int .i64 lv, .int .i64 (ct : Nat), .slice (some ⟨ga, 0, none⟩) 248 pv], .int .i64 20, .int .i64 12, .func (.func 70) #[] #[]] w fun e w' => e = .returned (.tuple #[.slice none 0 0, .int .i64 4]) ∧ Below w.heap.size w w' := by
  have hb0 : Below w.heap.size w (w.alloc (.cells #[.int .i64 kk, .int .i64 lv, .int .i64 (ct : Nat), .slice (some ⟨ga, 0, none⟩) 248 pv] 42)) := (Below.refl _ w).alloc (Nat.le_refl _) _
  clear hr
  go_enter Try.func69, Try.ntmps69
  go_wp2
  all_goals
    first
      | (exfalso; omega)
      | (go_ret2; exact ⟨rfl, hb0⟩)
set_option maxRecDepth 100000 in
set_option maxHeartbeats 1600000 in
theorem cellsP_tail (kk lv : Int) (ct ga pv : Nat) (BD : List UInt8) (w : World) (hr : Rd w (some ⟨ga, 0, none⟩) 248 BD) (hpv : 248 ≤ pv) (hc : 1 ≤ ct ∧ ct ≤ 20) (hz : P.zeros (BD.drop (12 * ct)) = false) :
    Calls Try.prog 69 #[.agg #[.int .i64 kk, .int .i64 lv, .int .i64 (ct : Nat), .slice (some ⟨ga, 0, none⟩) 248 pv], .int .i64 20, .int .i64 12, .func (.func 70) #[] #[]] w fun e w' => e = .returned (.tuple #[.slice none 0 0, .int .i64 4]) ∧ Below w.heap.size w w' := by
  have hb0 : Below w.heap.size w (w.alloc (.cells #[.int .i64 kk, .int .i64 lv, .int .i64 (ct : Nat), .slice (some ⟨ga, 0, none⟩) 248 pv] 42)) := (Below.refl _ w).alloc (Nat.le_refl _) _
  obtain ⟨M, hM⟩ : ∃ M, M = 12 * ct := ⟨_, rfl⟩
  have hMl : M ≤ 240 := by omega
  have hM1 : 1 ≤ M := by omega
  have hmul : (ct : Int) * 12 = (M : Int) := by omega
  have hcap : ¬ pv = M := by omega
  have hd : Rd (w.alloc (.cells #[.int .i64 kk, .int .i64 lv, .int .i64 (ct : Nat), .slice (some ⟨ga, 0, none⟩) 248 pv] 42)) (some ⟨ga, M, none⟩) (248 - M) (BD.drop M) := by
    have h := (hr.below hb0).drop M
    rwa [add_lit _ M (by omega), Nat.zero_add] at h
  have c1 : decide ((ct : Int) < 1) = false := decide_eq_false (by omega)
  have c2 : decide (20 < (ct : Int)) = false := decide_eq_false (by omega)
  have i1 : (0 : Int) ≤ (M : Int) := by omega
  have i2 : (M : Int) ≤ 248 := by omega
  rw [← hM] at hz
  have HD := Lib.hid hd
  have HM := Lib.hid hM
  clear hr hM hd
  go_enter Try.func69, Try.ntmps69
  go_wp2_with fail
  refine (cnoughts_any _ _ _ (BD.drop M) _ HD.out).mono ?_
  rw [hz]
  rintro e w2 ⟨rfl, rfl⟩
  go_wp2
  go_ret2
  exact ⟨rfl, hb0⟩
set_option maxRecDepth 100000 in
set_option maxHeartbeats 3200000 in
theorem cellsP_loop (kk lv : Int) (ct ga pv : Nat) (BD : List UInt8) (w : World) (hr : Rd w (some ⟨ga, 0, none⟩) 248 BD) (hpv : 248 ≤ pv) (hc : 1 ≤ ct ∧ ct ≤ 20) (hz : P.zeros (BD.drop (12 * ct)) = true) (E : Int) (N : Nat) (L : List P.Q)
    (hG : (∀ i, i < ct → P.okP (P.chunk 12 BD i) = true) → E = 0 ∧ N = ct ∧ L = P.cellsOf P.decP 12 BD ct) (hB : ∀ j, j < ct → P.okP (P.chunk 12 BD j) = false → E = 4 ∧ N = 0 ∧ L = []) :
    Calls Try.prog 69 #[.agg #[.int .i64 kk, .int .i64 lv, .int .i64 (ct : Nat), .slice (some ⟨ga, 0, none⟩) 248 pv], .int .i64 20, .int .i64 12, .func (.func 70) #[] #[]] w fun e w' => ∃ v, e = .returned (.tuple #[v, .int .i64 E]) ∧ OV w' w.heap.size 75 4 v N (qCs L) ∧ Below w.heap.size w w' := by
  have hb0 : Below w.heap.size w (w.alloc (.cells #[.int .i64 kk, .int .i64 lv, .int .i64 (ct : Nat), .slice (some ⟨ga, 0, none⟩) 248 pv] 42)) := (Below.refl _ w).alloc (Nat.le_refl _) _
  have hk0 : (w.alloc (.cells #[.int .i64 kk, .int .i64 lv, .int .i64 (ct : Nat), .slice (some ⟨ga, 0, none⟩) 248 pv] 42)).heap[w.heap.size]? = _ := alloc_new _ _ _ rfl
  have HG := Lib.hid hG
  have HBAD := Lib.hid hB
  obtain ⟨M, hM⟩ : ∃ M, M = 12 * ct := ⟨_, rfl⟩
  have hMl : M ≤ 240 := by omega
  have hM1 : 1 ≤ M := by omega
  have hmul : (ct : Int) * 12 = (M : Int) := by omega
  have hcap : ¬ pv = M := by omega
  have hd : Rd (w.alloc (.cells #[.int .i64 kk, .int .i64 lv, .int .i64 (ct : Nat), .slice (some ⟨ga, 0, none⟩) 248 pv] 42)) (some ⟨ga, M, none⟩) (248 - M) (BD.drop M) := by
    have h := (hr.below hb0).drop M
    rwa [add_lit _ M (by omega), Nat.zero_add] at h
  have c1 : decide ((ct : Int) < 1) = false := decide_eq_false (by omega)
  have c2 : decide (20 < (ct : Int)) = false := decide_eq_false (by omega)
  have i1 : (0 : Int) ≤ (M : Int) := by omega
  have i2 : (M : Int) ≤ 248 := by omega
  rw [← hM] at hz
  have HD := Lib.hid hd
  have HM := Lib.hid hM
  have HR0 := Lib.hid (hr.below hb0)
  have HK0 := Lib.hid hk0
  clear hr hM hd hk0 hG hB
  go_enter Try.func69, Try.ntmps69
  go_wp2_with fail
  refine (cnoughts_any _ _ _ (BD.drop M) _ HD.out).mono ?_
  rw [hz]
  rintro e w2 ⟨rfl, rfl⟩
  go_wp2_with fail
  generalize (w.alloc (.cells #[.int .i64 kk, .int .i64 lv, .int .i64 (ct : Nat), .slice (some ⟨ga, 0, none⟩) 248 pv] 42)) = w0 at *
  have l0 : w.heap.size < w0.heap.size := lt_of_block HK0.out
  go_loopw [10, 36] (fun v i wr => ∃ j : Nat, j ≤ ct ∧ i = .int .i64 j ∧ (∃ a n c, v = .slice a n c) ∧ OV wr w0.heap.size 75 4 v j (qCs (P.cellsOf P.decP 12 BD j)) ∧ (∀ k, k < j → P.okP (P.chunk 12 BD k) = true) ∧ Below w0.heap.size w0 wr) (fun v i _ => ct - (intOf i).toNat)
  case atStart => exact ⟨0, by omega, rfl, ⟨_, _, _, rfl⟩, OV.nil _ _ _ _, fun k h => by omega, Below.refl _ _⟩
  case round =>
    obtain ⟨j, hj, rfl, ⟨av, nv, cv, rfl⟩, ho, hpre, hbr⟩ := hrel
    have HO := Lib.hid ho
    have HPRE := Lib.hid hpre
    clear ho hpre
    by_cases hlt : j < ct
    · obtain ⟨A, hA⟩ : ∃ A, A = 12 * j := ⟨_, rfl⟩
      obtain ⟨B, hB⟩ : ∃ B, B = A + 12 := ⟨_, rfl⟩
      have m1 : (j : Int) * 12 = (A : Int) := by omega
      have m2 : ((j : Int) + 1) * 12 = (B : Int) := by omega
      have m3 : B - A = 12 := by omega
      have f1 : (0 : Int) ≤ (A : Int) := by omega
      have f2 : (A : Int) ≤ (B : Int) := by omega
      have f3 : (B : Int) ≤ 248 := by omega
      have f4 : (B : Int) ≤ (pv : Int) := by omega
      have f5 : ¬ pv = A := by omega
      have hb9 : B ≤ 248 := by omega
      have gp := cell_blk ((hbr.block _ l0).trans HK0.out)
      have lw : w.heap.size < wr.heap.size := by have := hbr.size; omega
      have hch : Rd wr (some ⟨ga, A, none⟩) 12 (P.chunk 12 BD j) := by
        have h := ((HR0.out.below hbr).drop A).take 12 (by omega)
        rw [add0 ga A, hA] at h
        rw [hA]
        exact h
      have hrd := rdP_any (some ⟨ga, A, none⟩) (pv - A) (P.chunk 12 BD j) wr hch
      have hbd := HBAD.out j hlt
      have hsn := P.cellsOf_snoc P.decP 12 BD j
      have hp1 := fun (k : Nat) (hk : k < j + 1) (h : P.okP (P.chunk 12 BD j) = true) => show P.okP (P.chunk 12 BD k) = true by
        rcases Nat.lt_or_ge k j with h0 | h0
        · exact HPRE.out k h0
        · obtain rfl : k = j := by omega
          exact h
      have HP1 := Lib.hid hp1
      have HBD := Lib.hid hbd
      have HSN := Lib.hid hsn
      clear hA hB hp1 hbd hsn hch
      rcases hok : P.okP (P.chunk 12 BD j) with _ | _
      case false =>
        rw [hok] at hrd
        obtain ⟨z1, z2, z3⟩ := HBD.out hok
        generalize P.decP (P.chunk 12 BD j) = Q at *
        obtain ⟨qa, qb, qc, qd⟩ := Q
        unfold qV at hrd
        have HRDX := Lib.hid hrd
        clear hrd
        go_wp2_with fail
        refine HRDX.out.mono ?_
        rintro e w3 ⟨rfl, hb3⟩
        have hbb3 := hb0.trans ((below_then hbr hb3 hbr.size).mono hb0.size)
        go_wp2
        go_ret2
        exact ⟨_, by rw [z1]; rfl, by rw [z2, z3]; exact OV.nil _ _ _ _, hbb3.alloc hbb3.size _⟩
      case true =>
        rw [hok] at hrd
        generalize P.decP (P.chunk 12 BD j) = Q at *
        obtain ⟨qa, qb, qc, qd⟩ := Q
        unfold qV at hrd
        have HRDX := Lib.hid hrd
        clear hrd
        go_wp2_with fail
        refine HRDX.out.mono ?_
        rintro e w3 ⟨rfl, hb3⟩
        have hbb3 := below_then hbr hb3 hbr.size
        have hb5 : Below w3.heap.size w3 ((w3.alloc (.cells #[.int .i64 qa, .int .i64 qb, .int .i64 qc, .int .i64 qd] 75)).alloc (.cells #[.int .i64 qa, .int .i64 qb, .int .i64 qc, .int .i64 qd] 75)) := ((Below.refl _ w3).alloc (Nat.le_refl _) _).alloc (by simp) _
        have hrq : RV ((w3.alloc (.cells #[.int .i64 qa, .int .i64 qb, .int .i64 qc, .int .i64 qd] 75)).alloc (.cells #[.int .i64 qa, .int .i64 qb, .int .i64 qc, .int .i64 qd] 75)) (some ⟨w3.heap.size + 1, 0, none⟩) 1 4 (qC ⟨qa, qb, qc, qd⟩) := by
          have h := RQ_one (w3.alloc (.cells #[.int .i64 qa, .int .i64 qb, .int .i64 qc, .int .i64 qd] 75)) 75 ⟨qa, qb, qc, qd⟩
          have e : (w3.alloc (.cells #[.int .i64 qa, .int .i64 qb, .int .i64 qc, .int .i64 qd] 75)).heap.size = w3.heap.size + 1 := by simp
          rw [e] at h
          exact h
        have hbt := hb3.trans (hb5.mono hb3.size)
        have hst : w0.heap.size ≤ ((w3.alloc (.cells #[.int .i64 qa, .int .i64 qb, .int .i64 qc, .int .i64 qd] 75)).alloc (.cells #[.int .i64 qa, .int .i64 qb, .int .i64 qc, .int .i64 qd] 75)).heap.size := by have := hbb3.size; simp; omega
        have HRQ := Lib.hid hrq
        have HBT := Lib.hid hbt
        clear hrq hbt gp hb5
        go_wp2_with (at_builtin; refine wpList_appV piecesT _ rfl _ _ rfl w0.heap.size _ _ _ rfl (HO.out.below HBT.out) _ _ _ _ rfl HRQ.out (qC_one _) ?c1 ?c2 hst ?_)
        case c1 => omega
        case c2 => omega
        intro v1 w1 hown1 hg1 hat1
        have hb1 : Below w0.heap.size w0 w1 := (HO.out.below HBT.out).grown (below_then hbr HBT.out hbr.size) hst hg1
        rw [← qCs_snoc, ← HSN.out] at hown1
        obtain ⟨a1, c1, hv1, -, -, -, -⟩ := hown1.form
        subst hv1
        have HO1 := Lib.hid hown1
        clear hown1 hg1 hat1
        go_wp2
        go_roundw
        case rel => exact ⟨j + 1, by omega, by first | go_num | (simp; done), ⟨_, _, _, rfl⟩, HO1.out, fun k hk => HP1.out k hk hok, hb1⟩
        case measure => simp [intOf]; omega
    · obtain rfl : j = ct := by omega
      obtain ⟨g1, g2, g3⟩ := HG.out (fun i hi => HPRE.out i hi)
      have hbb := hb0.trans (hbr.mono hb0.size)
      go_wp2
      go_ret2
      exact ⟨_, by rw [g1]; rfl, by rw [g2, g3]; exact HO.out.mono hb0.size, hbb⟩

set_option maxRecDepth 100000 in
set_option maxHeartbeats 1600000 in
theorem cellsK_len (kk lv : Int) (ct ga pv : Nat) (BD : List UInt8) (w : World) (hr : Rd w (some ⟨ga, 0, none⟩) 248 BD) (hpv : 248 ≤ pv) (hc : ct < 1 ∨ 12 < ct) :
    Calls Try.prog 77 #[.agg #[.int .i64 kk, .int .i64 lv, .int .i64 (ct : Nat), .slice (some ⟨ga, 0, none⟩) 248 pv], .int .i64 12, .int .i64 20, .func (.func 78) #[] #[]] w fun e w' => e = .returned (.tuple #[.slice none 0 0, .int .i64 4]) ∧ Below w.heap.size w w' := by
  have hb0 : Below w.heap.size w (w.alloc (.cells #[.int .i64 kk, .int .i64 lv, .int .i64 (ct : Nat), .slice (some ⟨ga, 0, none⟩) 248 pv] 42)) := (Below.refl _ w).alloc (Nat.le_refl _) _
  clear hr
  go_enter Try.func77, Try.ntmps77
  go_wp2
  all_goals
    first
      | (exfalso; omega)
      | (go_ret2; exact ⟨rfl, hb0⟩)
set_option maxRecDepth 100000 in
set_option maxHeartbeats 1600000 in
theorem cellsK_tail (kk lv : Int) (ct ga pv : Nat) (BD : List UInt8) (w : World) (hr : Rd w (some ⟨ga, 0, none⟩) 248 BD) (hpv : 248 ≤ pv) (hc : 1 ≤ ct ∧ ct ≤ 12) (hz : P.zeros (BD.drop (20 * ct)) = false) :
    Calls Try.prog 77 #[.agg #[.int .i64 kk, .int .i64 lv, .int .i64 (ct : Nat), .slice (some ⟨ga, 0, none⟩) 248 pv], .int .i64 12, .int .i64 20, .func (.func 78) #[] #[]] w fun e w' => e = .returned (.tuple #[.slice none 0 0, .int .i64 4]) ∧ Below w.heap.size w w' := by
  have hb0 : Below w.heap.size w (w.alloc (.cells #[.int .i64 kk, .int .i64 lv, .int .i64 (ct : Nat), .slice (some ⟨ga, 0, none⟩) 248 pv] 42)) := (Below.refl _ w).alloc (Nat.le_refl _) _
  obtain ⟨M, hM⟩ : ∃ M, M = 20 * ct := ⟨_, rfl⟩
  have hMl : M ≤ 240 := by omega
  have hM1 : 1 ≤ M := by omega
  have hmul : (ct : Int) * 20 = (M : Int) := by omega
  have hcap : ¬ pv = M := by omega
  have hd : Rd (w.alloc (.cells #[.int .i64 kk, .int .i64 lv, .int .i64 (ct : Nat), .slice (some ⟨ga, 0, none⟩) 248 pv] 42)) (some ⟨ga, M, none⟩) (248 - M) (BD.drop M) := by
    have h := (hr.below hb0).drop M
    rwa [add_lit _ M (by omega), Nat.zero_add] at h
  have c1 : decide ((ct : Int) < 1) = false := decide_eq_false (by omega)
  have c2 : decide (12 < (ct : Int)) = false := decide_eq_false (by omega)
  have i1 : (0 : Int) ≤ (M : Int) := by omega
  have i2 : (M : Int) ≤ 248 := by omega
  rw [← hM] at hz
  have HD := Lib.hid hd
  have HM := Lib.hid hM
  clear hr hM hd
  go_enter Try.func77, Try.ntmps77
  go_wp2_with fail
  refine (cnoughts_any _ _ _ (BD.drop M) _ HD.out).mono ?_
  rw [hz]
  rintro e w2 ⟨rfl, rfl⟩
  go_wp2
  go_ret2
  exact ⟨rfl, hb0⟩
set_option maxRecDepth 100000 in
set_option maxHeartbeats 3200000 in
theorem cellsK_loop (kk lv : Int) (ct ga pv : Nat) (BD : List UInt8) (w : World) (hr : Rd w (some ⟨ga, 0, none⟩) 248 BD) (hpv : 248 ≤ pv) (hc : 1 ≤ ct ∧ ct ≤ 12) (hz : P.zeros (BD.drop (20 * ct)) = true) (E : Int) (N : Nat) (L : List P.Q)
    (hG : (∀ i, i < ct → P.okK (P.chunk 20 BD i) = true) → E = 0 ∧ N = ct ∧ L = P.cellsOf P.decK 20 BD ct) (hB : ∀ j, j < ct → P.okK (P.chunk 20 BD j) = false → E = 4 ∧ N = 0 ∧ L = []) :
    Calls Try.prog 77 #[.agg #[.int .i64 kk, .int .i64 lv, .int .i64 (ct : Nat), .slice (some ⟨ga, 0, none⟩) 248 pv], .int .i64 12, .int .i64 20, .func (.func 78) #[] #[]] w fun e w' => ∃ v, e = .returned (.tuple #[v, .int .i64 E]) ∧ OV w' w.heap.size 121 4 v N (qCs L) ∧ Below w.heap.size w w' := by
  have hb0 : Below w.heap.size w (w.alloc (.cells #[.int .i64 kk, .int .i64 lv, .int .i64 (ct : Nat), .slice (some ⟨ga, 0, none⟩) 248 pv] 42)) := (Below.refl _ w).alloc (Nat.le_refl _) _
  have hk0 : (w.alloc (.cells #[.int .i64 kk, .int .i64 lv, .int .i64 (ct : Nat), .slice (some ⟨ga, 0, none⟩) 248 pv] 42)).heap[w.heap.size]? = _ := alloc_new _ _ _ rfl
  have HG := Lib.hid hG
  have HBAD := Lib.hid hB
  obtain ⟨M, hM⟩ : ∃ M, M = 20 * ct := ⟨_, rfl⟩
  have hMl : M ≤ 240 := by omega
  have hM1 : 1 ≤ M := by omega
  have hmul : (ct : Int) * 20 = (M : Int) := by omega
  have hcap : ¬ pv = M := by omega
  have hd : Rd (w.alloc (.cells #[.int .i64 kk, .int .i64 lv, .int .i64 (ct : Nat), .slice (some ⟨ga, 0, none⟩) 248 pv] 42)) (some ⟨ga, M, none⟩) (248 - M) (BD.drop M) := by
    have h := (hr.below hb0).drop M
    rwa [add_lit _ M (by omega), Nat.zero_add] at h
  have c1 : decide ((ct : Int) < 1) = false := decide_eq_false (by omega)
  have c2 : decide (12 < (ct : Int)) = false := decide_eq_false (by omega)
  have i1 : (0 : Int) ≤ (M : Int) := by omega
  have i2 : (M : Int) ≤ 248 := by omega
  rw [← hM] at hz
  have HD := Lib.hid hd
  have HM := Lib.hid hM
  have HR0 := Lib.hid (hr.below hb0)
  have HK0 := Lib.hid hk0
  clear hr hM hd hk0 hG hB
  go_enter Try.func77, Try.ntmps77
  go_wp2_with fail
  refine (cnoughts_any _ _ _ (BD.drop M) _ HD.out).mono ?_
  rw [hz]
  rintro e w2 ⟨rfl, rfl⟩
  go_wp2_with fail
  generalize (w.alloc (.cells #[.int .i64 kk, .int .i64 lv, .int .i64 (ct : Nat), .slice (some ⟨ga, 0, none⟩) 248 pv] 42)) = w0 at *
  have l0 : w.heap.size < w0.heap.size := lt_of_block HK0.out
  go_loopw [10, 36] (fun v i wr => ∃ j : Nat, j ≤ ct ∧ i = .int .i64 j ∧ (∃ a n c, v = .slice a n c) ∧ OV wr w0.heap.size 121 4 v j (qCs (P.cellsOf P.decK 20 BD j)) ∧ (∀ k, k < j → P.okK (P.chunk 20 BD k) = true) ∧ Below w0.heap.size w0 wr) (fun v i _ => ct - (intOf i).toNat)
  case atStart => exact ⟨0, by omega, rfl, ⟨_, _, _, rfl⟩, OV.nil _ _ _ _, fun k h => by omega, Below.refl _ _⟩
  case round =>
    obtain ⟨j, hj, rfl, ⟨av, nv, cv, rfl⟩, ho, hpre, hbr⟩ := hrel
    have HO := Lib.hid ho
    have HPRE := Lib.hid hpre
    clear ho hpre
    by_cases hlt : j < ct
    · obtain ⟨A, hA⟩ : ∃ A, A = 20 * j := ⟨_, rfl⟩
      obtain ⟨B, hB⟩ : ∃ B, B = A + 20 := ⟨_, rfl⟩
      have m1 : (j : Int) * 20 = (A : Int) := by omega
      have m2 : ((j : Int) + 1) * 20 = (B : Int) := by omega
      have m3 : B - A = 20 := by omega
      have f1 : (0 : Int) ≤ (A : Int) := by omega
      have f2 : (A : Int) ≤ (B : Int) := by omega
      have f3 : (B : Int) ≤ 248 := by omega
      have f4 : (B : Int) ≤ (pv : Int) := by omega
      have f5 : ¬ pv = A := by omega
      have hb9 : B ≤ 248 := by omega
      have gp := cell_blk ((hbr.block _ l0).trans HK0.out)
      have lw : w.heap.size < wr.heap.size := by have := hbr.size; omega
      have hch : Rd wr (some ⟨ga, A, none⟩) 20 (P.chunk 20 BD j) := by
        have h := ((HR0.out.below hbr).drop A).take 20 (by omega)
        rw [add0 ga A, hA] at h
        rw [hA]
        exact h
      have hrd := rdK_any (some ⟨ga, A, none⟩) (pv - A) (P.chunk 20 BD j) wr hch
      have hbd := HBAD.out j hlt
      have hsn := P.cellsOf_snoc P.decK 20 BD j
      have hkx := Lib.hid ((kidX_ok (P.chunk 20 BD j)).2)
      have hp1 := fun (k : Nat) (hk : k < j + 1) (h : P.okK (P.chunk 20 BD j) = true) => show P.okK (P.chunk 20 BD k) = true by
        rcases Nat.lt_or_ge k j with h0 | h0
        · exact HPRE.out k h0
        · obtain rfl : k = j := by omega
          exact h
      have HP1 := Lib.hid hp1
      have HBD := Lib.hid hbd
      have HSN := Lib.hid hsn
      clear hA hB hp1 hbd hsn hch
      rcases hok : P.okK (P.chunk 20 BD j) with _ | _
      case false =>
        rw [hok] at hrd
        obtain ⟨z1, z2, z3⟩ := HBD.out hok
        generalize kidX (P.chunk 20 BD j) = Q at *
        obtain ⟨qa, qb, qc, qd⟩ := Q
        unfold qV at hrd
        have HRDX := Lib.hid hrd
        clear hrd
        go_wp2_with fail
        refine HRDX.out.mono ?_
        rintro e w3 ⟨rfl, hb3⟩
        have hbb3 := hb0.trans ((below_then hbr hb3 hbr.size).mono hb0.size)
        go_wp2
        go_ret2
        exact ⟨_, by rw [z1]; rfl, by rw [z2, z3]; exact OV.nil _ _ _ _, hbb3.alloc hbb3.size _⟩
      case true =>
        rw [hok] at hrd
        rw [hkx.out hok] at hrd
        generalize P.decK (P.chunk 20 BD j) = Q at *
        obtain ⟨qa, qb, qc, qd⟩ := Q
        unfold qV at hrd
        have HRDX := Lib.hid hrd
        clear hrd
        go_wp2_with fail
        refine HRDX.out.mono ?_
        rintro e w3 ⟨rfl, hb3⟩
        have hbb3 := below_then hbr hb3 hbr.size
        have hb5 : Below w3.heap.size w3 ((w3.alloc (.cells #[.int .i64 qa, .int .i64 qb, .int .i64 qc, .int .i64 qd] 121)).alloc (.cells #[.int .i64 qa, .int .i64 qb, .int .i64 qc, .int .i64 qd] 121)) := ((Below.refl _ w3).alloc (Nat.le_refl _) _).alloc (by simp) _
        have hrq : RV ((w3.alloc (.cells #[.int .i64 qa, .int .i64 qb, .int .i64 qc, .int .i64 qd] 121)).alloc (.cells #[.int .i64 qa, .int .i64 qb, .int .i64 qc, .int .i64 qd] 121)) (some ⟨w3.heap.size + 1, 0, none⟩) 1 4 (qC ⟨qa, qb, qc, qd⟩) := by
          have h := RQ_one (w3.alloc (.cells #[.int .i64 qa, .int .i64 qb, .int .i64 qc, .int .i64 qd] 121)) 121 ⟨qa, qb, qc, qd⟩
          have e : (w3.alloc (.cells #[.int .i64 qa, .int .i64 qb, .int .i64 qc, .int .i64 qd] 121)).heap.size = w3.heap.size + 1 := by simp
          rw [e] at h
          exact h
        have hbt := hb3.trans (hb5.mono hb3.size)
        have hst : w0.heap.size ≤ ((w3.alloc (.cells #[.int .i64 qa, .int .i64 qb, .int .i64 qc, .int .i64 qd] 121)).alloc (.cells #[.int .i64 qa, .int .i64 qb, .int .i64 qc, .int .i64 qd] 121)).heap.size := by have := hbb3.size; simp; omega
        have HRQ := Lib.hid hrq
        have HBT := Lib.hid hbt
        clear hrq hbt gp hb5
        go_wp2_with (at_builtin; refine wpList_appV kidsT _ rfl _ _ rfl w0.heap.size _ _ _ rfl (HO.out.below HBT.out) _ _ _ _ rfl HRQ.out (qC_one _) ?c1 ?c2 hst ?_)
        case c1 => omega
        case c2 => omega
        intro v1 w1 hown1 hg1 hat1
        have hb1 : Below w0.heap.size w0 w1 := (HO.out.below HBT.out).grown (below_then hbr HBT.out hbr.size) hst hg1
        rw [← qCs_snoc, ← HSN.out] at hown1
        obtain ⟨a1, c1, hv1, -, -, -, -⟩ := hown1.form
        subst hv1
        have HO1 := Lib.hid hown1
        clear hown1 hg1 hat1
        go_wp2
        go_roundw
        case rel => exact ⟨j + 1, by omega, by first | go_num | (simp; done), ⟨_, _, _, rfl⟩, HO1.out, fun k hk => HP1.out k hk hok, hb1⟩
        case measure => simp [intOf]; omega
    · obtain rfl : j = ct := by omega
      obtain ⟨g1, g2, g3⟩ := HG.out (fun i hi => HPRE.out i hi)
      have hbb := hb0.trans (hbr.mono hb0.size)
      go_wp2
      go_ret2
      exact ⟨_, by rw [g1]; rfl, by rw [g2, g3]; exact HO.out.mono hb0.size, hbb⟩
end Go.Proofs.Ytpdmhnppibfmkaa
