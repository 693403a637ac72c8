/- The walks of chapter 8: what reads one cell. -/
import Derived.Test.YtpdmhnppibfmkaaClD
import Derived.Test.YtpdmhnppibfmkaaNo
namespace Go.Proofs.Ytpdmhnppibfmkaa
set_option linter.unusedVariables false
set_option linter.unusedSimpArgs false
open Go.RowKit

theorem one1_fit (l : List UInt8) (at_ n : Nat) (h1 : 1 ≤ n) (h7 : n ≤ 7) (h : at_ + n ≤ l.length) : one1 l (at_ : Nat) (n : Nat) = (P.get l (at_ : Nat) (n : Nat)).1 := by
  unfold one1
  rw [P.get_fit l at_ n h1 h7 h]
  rfl
theorem numP (c : List UInt8) (hl : c.length = 12) : numTo [4, 2, 2, 2, 2] c 5 = [(P.decP c).a, (P.decP c).b, (P.decP c).c, (P.decP c).d, (P.get c 10 2).1] := by
  have e0 := one1_fit c 0 4 (by omega) (by omega) (by omega)
  have e1 := one1_fit c 4 2 (by omega) (by omega) (by omega)
  have e2 := one1_fit c 6 2 (by omega) (by omega) (by omega)
  have e3 := one1_fit c 8 2 (by omega) (by omega) (by omega)
  have e4 := one1_fit c 10 2 (by omega) (by omega) (by omega)
  show [one1 c 0 4, one1 c 4 2, one1 c 6 2, one1 c 8 2, one1 c 10 2] = _
  rw [show one1 c 0 4 = _ from e0, show one1 c 4 2 = _ from e1, show one1 c 6 2 = _ from e2, show one1 c 8 2 = _ from e3, show one1 c 10 2 = _ from e4]
  rfl
/-- A kid as the program reads it: its bytes may be -1. -/
def kidX (c : List UInt8) : P.Q := ⟨(P.decK c).a, (P.decK c).b, one1 c 8 8, (P.decK c).d⟩
theorem numK (c : List UInt8) (hl : c.length = 20) : numTo [4, 4, 8, 4] c 4 = [(kidX c).a, (kidX c).b, (kidX c).c, (kidX c).d] := by
  have e0 := one1_fit c 0 4 (by omega) (by omega) (by omega)
  have e1 := one1_fit c 4 4 (by omega) (by omega) (by omega)
  have e3 := one1_fit c 16 4 (by omega) (by omega) (by omega)
  show [one1 c 0 4, one1 c 4 4, one1 c 8 8, one1 c 16 4] = _
  rw [show one1 c 0 4 = _ from e0, show one1 c 4 4 = _ from e1, show one1 c 16 4 = _ from e3]
  rfl
theorem kidX_ok (c : List UInt8) : (kidX c).mayK = P.okK c ∧ (P.okK c = true → kidX c = P.decK c) := by
  rcases h : (P.get c 8 8).2 with _ | _
  · have h0 := P.get_unf c 8 8 h
    have e : one1 c 8 8 = -1 := by unfold one1; rw [h]; rfl
    have m1 : (kidX c).mayK = false := by
      rcases hm : (kidX c).mayK with _ | _
      · rfl
      · have := (kidX c).mayK_iff.1 hm
        have e2 : (kidX c).c = one1 c 8 8 := rfl
        omega
    have m2 : P.okK c = false := by
      rcases hm : P.okK c with _ | _
      · rfl
      · have := (P.decK c).mayK_iff.1 hm
        have e2 : (P.decK c).c = (P.get c 8 8).1 := rfl
        omega
    exact ⟨by rw [m1, m2], by rw [m2]; intro h; cases h⟩
  · have e : kidX c = P.decK c := by
      unfold kidX one1
      rw [h]
      rfl
    exact ⟨by rw [e]; rfl, fun _ => e⟩

theorem set4' {w w1 : World} {B : Nat} (h : Below B w w1) (u0 u1 u2 u3 : Value) :
    Below B w ((((w1.setCell ⟨B, 0, none⟩ u0).setCell ⟨B, 1, none⟩ u1).setCell ⟨B, 2, none⟩ u2).setCell ⟨B, 3, none⟩ u3) :=
  (((h.setCell (Nat.le_refl _) _).setCell (Nat.le_refl _) _).setCell (Nat.le_refl _) _).setCell (Nat.le_refl _) _
theorem chg4 {w w1 : World} {B : Nat} (h : Below w.heap.size w w1) (u0 u1 u2 u3 : Value) :
    Chg (fun k => k = B) w ((((w1.setCell ⟨B, 0, none⟩ u0).setCell ⟨B, 1, none⟩ u1).setCell ⟨B, 2, none⟩ u2).setCell ⟨B, 3, none⟩ u3) :=
  ((((Chg.of_below h (fun k => k = B)).setCell ⟨B, 0, none⟩ u0 (.inr rfl)).setCell ⟨B, 1, none⟩ u1 (.inr rfl)).setCell ⟨B, 2, none⟩ u2 (.inr rfl)).setCell ⟨B, 3, none⟩ u3 (.inr rfl)
theorem blk4 {w1 : World} {B : Nat} {a0 a1 a2 a3 : Value} {t : TypeId} {fr : Nat × Nat} (h : w1.heap[B]? = some (.cells #[a0, a1, a2, a3] t fr)) (u0 u1 u2 u3 : Value) :
    ((((w1.setCell ⟨B, 0, none⟩ u0).setCell ⟨B, 1, none⟩ u1).setCell ⟨B, 2, none⟩ u2).setCell ⟨B, 3, none⟩ u3).heap[B]? = some (.cells #[u0, u1, u2, u3] t fr) :=
  blk_setCell (blk_setCell (blk_setCell (blk_setCell h 0 u0) 1 u1) 2 u2) 3 u3
theorem deqz (x : Int) : decide (x = 0) = (x == 0) := by by_cases h : x = 0 <;> simp [h]
set_option maxRecDepth 100000 in
set_option maxHeartbeats 6400000 in
theorem rdP_f (a : Option Addr) (cap : Nat) (c : List UInt8) (w : World) (hr : Rd w a 12 c) (hmay : (P.decP c).mayP = false) :
    Calls Try.prog 70 #[.slice a 12 cap] w fun e w' => e = .returned (.tuple #[qV (P.decP c), .bool (P.okP c)]) ∧ Below w.heap.size w w' := by
  have hn := numP c hr.1
  have hok : P.okP c = ((P.decP c).mayP && decide ((P.get c 10 2).1 = 0)) := rfl
  have HM := Lib.hid (fun w => mayP_any (P.decP c) w)
  generalize (P.get c 10 2).1 = Z at *
  generalize P.decP c = Q at *
  obtain ⟨A, B, C, D⟩ := Q
  simp only at hn
  have HN := Lib.hid hn
  have HOK := Lib.hid hok
  have HR := Lib.hid hr
  unfold qV at HM ⊢
  simp only at HM ⊢
  clear hn hok hr
  go_enter Try.func70, Try.ntmps70
  go_wp2_with fail
  have hb0 : Below w.heap.size w ((w.alloc (.cells #[.int .i64 0, .int .i64 0, .int .i64 0, .int .i64 0] 75)).alloc (.cells #[.int .i64 4, .int .i64 2, .int .i64 2, .int .i64 2, .int .i64 2] 3)) := ((Below.refl _ w).alloc (Nat.le_refl _) _).alloc (by simp) _
  have hB0 : ((w.alloc (.cells #[.int .i64 0, .int .i64 0, .int .i64 0, .int .i64 0] 75)).alloc (.cells #[.int .i64 4, .int .i64 2, .int .i64 2, .int .i64 2, .int .i64 2] 3)).heap[w.heap.size]? = _ := alloc_old (alloc_new _ _ _ rfl) _
  have hri : RI ((w.alloc (.cells #[.int .i64 0, .int .i64 0, .int .i64 0, .int .i64 0] 75)).alloc (.cells #[.int .i64 4, .int .i64 2, .int .i64 2, .int .i64 2, .int .i64 2] 3)) (some ⟨w.heap.size + 1, 0, none⟩) 5 [4, 2, 2, 2, 2] := by
    have h := RI_lit (w.alloc (.cells #[.int .i64 0, .int .i64 0, .int .i64 0, .int .i64 0] 75)) 3 [4, 2, 2, 2, 2] (fr := (0, 0)) (by simp [maxLen])
    have e : (w.alloc (.cells #[.int .i64 0, .int .i64 0, .int .i64 0, .int .i64 0] 75)).heap.size = w.heap.size + 1 := by simp
    rw [e] at h
    exact h
  generalize ((w.alloc (.cells #[.int .i64 0, .int .i64 0, .int .i64 0, .int .i64 0] 75)).alloc (.cells #[.int .i64 4, .int .i64 2, .int .i64 2, .int .i64 2, .int .i64 2] 3)) = w0 at *
  have l0 : w.heap.size < w0.heap.size := lt_of_block hB0
  refine (numbers_any _ _ _ _ _ _ _ c _ hri (HR.out.below hb0) (by omega) (by simp)).mono ?_
  rintro e w1 ⟨v1, rfl, ho1, hb1⟩
  rw [HN.out] at ho1
  have hbb1 := below_then hb0 hb1 hb0.size
  obtain ⟨g, q, hv1, hg1, hg2, hrv, -⟩ := ho1.pos (by omega)
  subst hv1
  have hB1 := (hb1.block _ l0).trans hB0
  have k0 : w1.cell? ⟨g, 0, none⟩ = some (.int .i64 A) := by obtain ⟨p, e, h⟩ := RV.at hrv 0 (by simp [ivs]); cases e; exact h
  have k1 : w1.cell? ⟨g, 1, none⟩ = some (.int .i64 B) := by obtain ⟨p, e, h⟩ := RV.at hrv 1 (by simp [ivs]); cases e; exact h
  have k2 : w1.cell? ⟨g, 2, none⟩ = some (.int .i64 C) := by obtain ⟨p, e, h⟩ := RV.at hrv 2 (by simp [ivs]); cases e; exact h
  have k3 : w1.cell? ⟨g, 3, none⟩ = some (.int .i64 D) := by obtain ⟨p, e, h⟩ := RV.at hrv 3 (by simp [ivs]); cases e; exact h
  have k4 : w1.cell? ⟨g, 4, none⟩ = some (.int .i64 Z) := by obtain ⟨p, e, h⟩ := RV.at hrv 4 (by simp [ivs]); cases e; exact h
  have HB1 := Lib.hid hB1
  have hB : Below w1.heap.size w1 w1.drew := ⟨rfl, rfl, rfl, Nat.le_refl _, fun _ _ => rfl⟩
  have kp : ∀ w', Below w1.heap.size w1 w' → w'.cell? ⟨g, 0, none⟩ = some (.int .i64 A) ∧ w'.cell? ⟨g, 1, none⟩ = some (.int .i64 B) ∧ w'.cell? ⟨g, 2, none⟩ = some (.int .i64 C) ∧ w'.cell? ⟨g, 3, none⟩ = some (.int .i64 D) :=
    fun w' h => ⟨(h.cell (p := ⟨g, 0, none⟩) hg2).trans k0, (h.cell (p := ⟨g, 1, none⟩) hg2).trans k1, (h.cell (p := ⟨g, 2, none⟩) hg2).trans k2, (h.cell (p := ⟨g, 3, none⟩) hg2).trans k3⟩
  have KP := Lib.hid kp
  clear ho1 hrv hB0 hri hB1 kp
  go_wp2
  go_region_held3 (fun w' => w'.cell? ⟨g, 0, none⟩ = some (.int .i64 A) ∧ w'.cell? ⟨g, 1, none⟩ = some (.int .i64 B) ∧ w'.cell? ⟨g, 2, none⟩ = some (.int .i64 C) ∧ w'.cell? ⟨g, 3, none⟩ = some (.int .i64 D))
    (first
      | exact KP.out _ hB
      | exact KP.out _ (hB.alloc hB.size _))
    (fail)
  go_wp2
  have hb2 : Below w1.heap.size w1 (w1.alloc (.cells #[.int .i64 A, .int .i64 B, .int .i64 C, .int .i64 D] 75)).drew := ⟨rfl, rfl, rfl, by simp, fun k hk => Below.heap_alloc _ _ _ hk⟩
  have hB2 : (w1.alloc (.cells #[.int .i64 A, .int .i64 B, .int .i64 C, .int .i64 D] 75)).drew.heap[w1.heap.size]? = _ := alloc_new w1 (.cells #[.int .i64 A, .int .i64 B, .int .i64 C, .int .i64 D] 75) _ rfl
  generalize (w1.alloc (.cells #[.int .i64 A, .int .i64 B, .int .i64 C, .int .i64 D] 75)).drew = w2 at *
  have l2 := lt_of_block hB2
  have hbb2 := below_then hbb1 hb2 hbb1.size
  have k4' := (hb2.cell (p := ⟨g, 4, none⟩) hg2).trans k4
  have hg3 : g < w2.heap.size := by have := hb2.size; omega
  have hBz := (hb2.block _ (lt_of_block HB1.out)).trans HB1.out
  have hbD : Below w2.heap.size w2 w2.drew := ⟨rfl, rfl, rfl, Nat.le_refl _, fun _ _ => rfl⟩
  have hne : w1.heap.size ≠ w.heap.size := by have := lt_of_block HB1.out; omega
  have hne2 : g ≠ w.heap.size := by omega
  have hS : ∀ w', Chg (fun k => k = w.heap.size) w2 w' → (∀ i, w'.cell? ⟨w1.heap.size, i, none⟩ = (#[.int .i64 A, .int .i64 B, .int .i64 C, .int .i64 D] : Array Value)[i]?) ∧ w'.cell? ⟨g, 4, none⟩ = some (.int .i64 Z) :=
    fun w' h => ⟨cell_blk ((h.block _ l2 hne).trans hB2), (World.cell?_of_block (a := ⟨g, 4, none⟩) (h.block _ hg3 hne2)).trans k4'⟩
  have HS := Lib.hid hS
  have HBZ := Lib.hid hBz
  clear k0 k1 k2 k3 k4 k4' hB2 hBz hS
  have hv : P.okP c = (P.Q.mayP ⟨A, B, C, D⟩ && (Z == 0)) := by rw [HOK.out, deqz]
  rw [hmay] at HM
  rw [hmay, Bool.false_and] at hv
  have HV := Lib.hid hv
  clear hv
  have s2 := HS.out _ (Chg.of_below hbD _)
  obtain ⟨s2a, s2b⟩ := s2
  have hcz : ∀ w', Below w2.heap.size w2 w' → ∀ i, w'.cell? ⟨w.heap.size, i, none⟩ = (#[.int .i64 0, .int .i64 0, .int .i64 0, .int .i64 0] : Array Value)[i]? := fun w' h => cell_blk ((h.block _ (lt_of_block HBZ.out)).trans HBZ.out)
  have hfz : ∀ w', Below w2.heap.size w2 w' → ∀ i, w'.frozen? ⟨w.heap.size, i, none⟩ = false := fun w' h => free_blk ((h.block _ (lt_of_block HBZ.out)).trans HBZ.out)
  have HCZ := Lib.hid hcz
  have HFZ := Lib.hid hfz
  have ZZ := Lib.hid s2a
  clear hcz hfz s2b
  first
    | (go_region_with (go_at_call 66; refine (HM.out _).mono ?_; rintro e wp ⟨rfl, hbp⟩; have hbP := below_then hbD hbp hbD.size; have cz := HCZ.out _ hbP; have fz := HFZ.out _ hbP; have sp := (HS.out _ (Chg.of_below hbP _)).1))
    | fail "with"
  all_goals
    have hbb9 := below_then hbb2 hbP hbb2.size
    have hBzP := (hbP.block _ (lt_of_block HBZ.out)).trans HBZ.out
    have HBP := Lib.hid hBzP
    clear hBzP hbp hbP
    go_wp2
    generalize hW2 : World.setCell _ ⟨w.heap.size, 3, none⟩ _ = W2
    have hb9 : Below w.heap.size w W2 := by rw [← hW2]; exact set4' hbb9 _ _ _ _
    have cl2 := cell_blk (show W2.heap[w.heap.size]? = _ by rw [← hW2]; exact blk4 HBP.out _ _ _ _)
    exact bodyPost_ret (v := .tuple #[.agg #[.int .i64 A, .int .i64 B, .int .i64 C, .int .i64 D], .bool _]) (by first | (simp [results, Try.results70, go_sem, cl2]; done) | (simp [results, Try.results70, go_sem, cl2]; rfl)) rfl ⟨by first | (rw [HV.out]; done) | (rw [HV.out]; rfl), hb9⟩
set_option maxRecDepth 100000 in
set_option maxHeartbeats 6400000 in
theorem rdP_tf (a : Option Addr) (cap : Nat) (c : List UInt8) (w : World) (hr : Rd w a 12 c) (hmay : (P.decP c).mayP = true) (hz : ((P.get c 10 2).1 == 0) = false) :
    Calls Try.prog 70 #[.slice a 12 cap] w fun e w' => e = .returned (.tuple #[qV (P.decP c), .bool (P.okP c)]) ∧ Below w.heap.size w w' := by
  have hn := numP c hr.1
  have hok : P.okP c = ((P.decP c).mayP && decide ((P.get c 10 2).1 = 0)) := rfl
  have HM := Lib.hid (fun w => mayP_any (P.decP c) w)
  generalize (P.get c 10 2).1 = Z at *
  generalize P.decP c = Q at *
  obtain ⟨A, B, C, D⟩ := Q
  simp only at hn
  have HN := Lib.hid hn
  have HOK := Lib.hid hok
  have HR := Lib.hid hr
  unfold qV at HM ⊢
  simp only at HM ⊢
  clear hn hok hr
  go_enter Try.func70, Try.ntmps70
  go_wp2_with fail
  have hb0 : Below w.heap.size w ((w.alloc (.cells #[.int .i64 0, .int .i64 0, .int .i64 0, .int .i64 0] 75)).alloc (.cells #[.int .i64 4, .int .i64 2, .int .i64 2, .int .i64 2, .int .i64 2] 3)) := ((Below.refl _ w).alloc (Nat.le_refl _) _).alloc (by simp) _
  have hB0 : ((w.alloc (.cells #[.int .i64 0, .int .i64 0, .int .i64 0, .int .i64 0] 75)).alloc (.cells #[.int .i64 4, .int .i64 2, .int .i64 2, .int .i64 2, .int .i64 2] 3)).heap[w.heap.size]? = _ := alloc_old (alloc_new _ _ _ rfl) _
  have hri : RI ((w.alloc (.cells #[.int .i64 0, .int .i64 0, .int .i64 0, .int .i64 0] 75)).alloc (.cells #[.int .i64 4, .int .i64 2, .int .i64 2, .int .i64 2, .int .i64 2] 3)) (some ⟨w.heap.size + 1, 0, none⟩) 5 [4, 2, 2, 2, 2] := by
    have h := RI_lit (w.alloc (.cells #[.int .i64 0, .int .i64 0, .int .i64 0, .int .i64 0] 75)) 3 [4, 2, 2, 2, 2] (fr := (0, 0)) (by simp [maxLen])
    have e : (w.alloc (.cells #[.int .i64 0, .int .i64 0, .int .i64 0, .int .i64 0] 75)).heap.size = w.heap.size + 1 := by simp
    rw [e] at h
    exact h
  generalize ((w.alloc (.cells #[.int .i64 0, .int .i64 0, .int .i64 0, .int .i64 0] 75)).alloc (.cells #[.int .i64 4, .int .i64 2, .int .i64 2, .int .i64 2, .int .i64 2] 3)) = w0 at *
  have l0 : w.heap.size < w0.heap.size := lt_of_block hB0
  refine (numbers_any _ _ _ _ _ _ _ c _ hri (HR.out.below hb0) (by omega) (by simp)).mono ?_
  rintro e w1 ⟨v1, rfl, ho1, hb1⟩
  rw [HN.out] at ho1
  have hbb1 := below_then hb0 hb1 hb0.size
  obtain ⟨g, q, hv1, hg1, hg2, hrv, -⟩ := ho1.pos (by omega)
  subst hv1
  have hB1 := (hb1.block _ l0).trans hB0
  have k0 : w1.cell? ⟨g, 0, none⟩ = some (.int .i64 A) := by obtain ⟨p, e, h⟩ := RV.at hrv 0 (by simp [ivs]); cases e; exact h
  have k1 : w1.cell? ⟨g, 1, none⟩ = some (.int .i64 B) := by obtain ⟨p, e, h⟩ := RV.at hrv 1 (by simp [ivs]); cases e; exact h
  have k2 : w1.cell? ⟨g, 2, none⟩ = some (.int .i64 C) := by obtain ⟨p, e, h⟩ := RV.at hrv 2 (by simp [ivs]); cases e; exact h
  have k3 : w1.cell? ⟨g, 3, none⟩ = some (.int .i64 D) := by obtain ⟨p, e, h⟩ := RV.at hrv 3 (by simp [ivs]); cases e; exact h
  have k4 : w1.cell? ⟨g, 4, none⟩ = some (.int .i64 Z) := by obtain ⟨p, e, h⟩ := RV.at hrv 4 (by simp [ivs]); cases e; exact h
  have HB1 := Lib.hid hB1
  have hB : Below w1.heap.size w1 w1.drew := ⟨rfl, rfl, rfl, Nat.le_refl _, fun _ _ => rfl⟩
  have kp : ∀ w', Below w1.heap.size w1 w' → w'.cell? ⟨g, 0, none⟩ = some (.int .i64 A) ∧ w'.cell? ⟨g, 1, none⟩ = some (.int .i64 B) ∧ w'.cell? ⟨g, 2, none⟩ = some (.int .i64 C) ∧ w'.cell? ⟨g, 3, none⟩ = some (.int .i64 D) :=
    fun w' h => ⟨(h.cell (p := ⟨g, 0, none⟩) hg2).trans k0, (h.cell (p := ⟨g, 1, none⟩) hg2).trans k1, (h.cell (p := ⟨g, 2, none⟩) hg2).trans k2, (h.cell (p := ⟨g, 3, none⟩) hg2).trans k3⟩
  have KP := Lib.hid kp
  clear ho1 hrv hB0 hri hB1 kp
  go_wp2
  go_region_held3 (fun w' => w'.cell? ⟨g, 0, none⟩ = some (.int .i64 A) ∧ w'.cell? ⟨g, 1, none⟩ = some (.int .i64 B) ∧ w'.cell? ⟨g, 2, none⟩ = some (.int .i64 C) ∧ w'.cell? ⟨g, 3, none⟩ = some (.int .i64 D))
    (first
      | exact KP.out _ hB
      | exact KP.out _ (hB.alloc hB.size _))
    (fail)
  go_wp2
  have hb2 : Below w1.heap.size w1 (w1.alloc (.cells #[.int .i64 A, .int .i64 B, .int .i64 C, .int .i64 D] 75)).drew := ⟨rfl, rfl, rfl, by simp, fun k hk => Below.heap_alloc _ _ _ hk⟩
  have hB2 : (w1.alloc (.cells #[.int .i64 A, .int .i64 B, .int .i64 C, .int .i64 D] 75)).drew.heap[w1.heap.size]? = _ := alloc_new w1 (.cells #[.int .i64 A, .int .i64 B, .int .i64 C, .int .i64 D] 75) _ rfl
  generalize (w1.alloc (.cells #[.int .i64 A, .int .i64 B, .int .i64 C, .int .i64 D] 75)).drew = w2 at *
  have l2 := lt_of_block hB2
  have hbb2 := below_then hbb1 hb2 hbb1.size
  have k4' := (hb2.cell (p := ⟨g, 4, none⟩) hg2).trans k4
  have hg3 : g < w2.heap.size := by have := hb2.size; omega
  have hBz := (hb2.block _ (lt_of_block HB1.out)).trans HB1.out
  have hbD : Below w2.heap.size w2 w2.drew := ⟨rfl, rfl, rfl, Nat.le_refl _, fun _ _ => rfl⟩
  have hne : w1.heap.size ≠ w.heap.size := by have := lt_of_block HB1.out; omega
  have hne2 : g ≠ w.heap.size := by omega
  have hS : ∀ w', Chg (fun k => k = w.heap.size) w2 w' → (∀ i, w'.cell? ⟨w1.heap.size, i, none⟩ = (#[.int .i64 A, .int .i64 B, .int .i64 C, .int .i64 D] : Array Value)[i]?) ∧ w'.cell? ⟨g, 4, none⟩ = some (.int .i64 Z) :=
    fun w' h => ⟨cell_blk ((h.block _ l2 hne).trans hB2), (World.cell?_of_block (a := ⟨g, 4, none⟩) (h.block _ hg3 hne2)).trans k4'⟩
  have HS := Lib.hid hS
  have HBZ := Lib.hid hBz
  clear k0 k1 k2 k3 k4 k4' hB2 hBz hS
  have hv : P.okP c = (P.Q.mayP ⟨A, B, C, D⟩ && (Z == 0)) := by rw [HOK.out, deqz]
  rw [hmay] at HM
  rw [hmay, hz] at hv
  have HV := Lib.hid hv
  clear hv
  first
    | (go_region_held3 (fun w' => (∀ i, w'.cell? ⟨w1.heap.size, i, none⟩ = (#[.int .i64 A, .int .i64 B, .int .i64 C, .int .i64 D] : Array Value)[i]?) ∧ w'.cell? ⟨g, 4, none⟩ = some (.int .i64 Z))
        (first
          | exact HS.out _ (Chg.of_below hbD _)
          | exact HS.out _ (Chg.of_below hbP _)
          | exact HS.out _ (chg4 hbP _ _ _ _))
        (first
          | (go_at_call 66; refine (HM.out _).mono ?_; rintro e wp ⟨rfl, hbp⟩; have hbP := below_then hbD hbp hbD.size; have cz := cell_blk ((hbP.block _ (lt_of_block HBZ.out)).trans HBZ.out); have fz := free_blk ((hbP.block _ (lt_of_block HBZ.out)).trans HBZ.out))))
    | fail "held"
  all_goals
    have hbb9 := below_then hbb2 hbP hbb2.size
    have hBzP := (hbP.block _ (lt_of_block HBZ.out)).trans HBZ.out
    have HBP := Lib.hid hBzP
    clear hBzP hbp hbP
    go_wp2
    generalize hW2 : World.setCell _ ⟨w.heap.size, 3, none⟩ _ = W2
    have hb9 : Below w.heap.size w W2 := by rw [← hW2]; exact set4' hbb9 _ _ _ _
    have cl2 := cell_blk (show W2.heap[w.heap.size]? = _ by rw [← hW2]; exact blk4 HBP.out _ _ _ _)
    exact bodyPost_ret (v := .tuple #[.agg #[.int .i64 A, .int .i64 B, .int .i64 C, .int .i64 D], .bool _]) (by first | (simp [results, Try.results70, go_sem, cl2]; done) | (simp [results, Try.results70, go_sem, cl2]; rfl)) rfl ⟨by first | (rw [HV.out]; done) | (rw [HV.out]; rfl), hb9⟩
set_option maxRecDepth 100000 in
set_option maxHeartbeats 6400000 in
theorem rdP_tt (a : Option Addr) (cap : Nat) (c : List UInt8) (w : World) (hr : Rd w a 12 c) (hmay : (P.decP c).mayP = true) (hz : ((P.get c 10 2).1 == 0) = true) :
    Calls Try.prog 70 #[.slice a 12 cap] w fun e w' => e = .returned (.tuple #[qV (P.decP c), .bool (P.okP c)]) ∧ Below w.heap.size w w' := by
  have hn := numP c hr.1
  have hok : P.okP c = ((P.decP c).mayP && decide ((P.get c 10 2).1 = 0)) := rfl
  have HM := Lib.hid (fun w => mayP_any (P.decP c) w)
  generalize (P.get c 10 2).1 = Z at *
  generalize P.decP c = Q at *
  obtain ⟨A, B, C, D⟩ := Q
  simp only at hn
  have HN := Lib.hid hn
  have HOK := Lib.hid hok
  have HR := Lib.hid hr
  unfold qV at HM ⊢
  simp only at HM ⊢
  clear hn hok hr
  go_enter Try.func70, Try.ntmps70
  go_wp2_with fail
  have hb0 : Below w.heap.size w ((w.alloc (.cells #[.int .i64 0, .int .i64 0, .int .i64 0, .int .i64 0] 75)).alloc (.cells #[.int .i64 4, .int .i64 2, .int .i64 2, .int .i64 2, .int .i64 2] 3)) := ((Below.refl _ w).alloc (Nat.le_refl _) _).alloc (by simp) _
  have hB0 : ((w.alloc (.cells #[.int .i64 0, .int .i64 0, .int .i64 0, .int .i64 0] 75)).alloc (.cells #[.int .i64 4, .int .i64 2, .int .i64 2, .int .i64 2, .int .i64 2] 3)).heap[w.heap.size]? = _ := alloc_old (alloc_new _ _ _ rfl) _
  have hri : RI ((w.alloc (.cells #[.int .i64 0, .int .i64 0, .int .i64 0, .int .i64 0] 75)).alloc (.cells #[.int .i64 4, .int .i64 2, .int .i64 2, .int .i64 2, .int .i64 2] 3)) (some ⟨w.heap.size + 1, 0, none⟩) 5 [4, 2, 2, 2, 2] := by
    have h := RI_lit (w.alloc (.cells #[.int .i64 0, .int .i64 0, .int .i64 0, .int .i64 0] 75)) 3 [4, 2, 2, 2, 2] (fr := (0, 0)) (by simp [maxLen])
    have e : (w.alloc (.cells #[.int .i64 0, .int .i64 0, .int .i64 0, .int .i64 0] 75)).heap.size = w.heap.size + 1 := by simp
    rw [e] at h
    exact h
  generalize ((w.alloc (.cells #[.int .i64 0, .int .i64 0, .int .i64 0, .int .i64 0] 75)).alloc (.cells #[.int .i64 4, .int .i64 2, .int .i64 2, .int .i64 2, .int .i64 2] 3)) = w0 at *
  have l0 : w.heap.size < w0.heap.size := lt_of_block hB0
  refine (numbers_any _ _ _ _ _ _ _ c _ hri (HR.out.below hb0) (by omega) (by simp)).mono ?_
  rintro e w1 ⟨v1, rfl, ho1, hb1⟩
  rw [HN.out] at ho1
  have hbb1 := below_then hb0 hb1 hb0.size
  obtain ⟨g, q, hv1, hg1, hg2, hrv, -⟩ := ho1.pos (by omega)
  subst hv1
  have hB1 := (hb1.block _ l0).trans hB0
  have k0 : w1.cell? ⟨g, 0, none⟩ = some (.int .i64 A) := by obtain ⟨p, e, h⟩ := RV.at hrv 0 (by simp [ivs]); cases e; exact h
  have k1 : w1.cell? ⟨g, 1, none⟩ = some (.int .i64 B) := by obtain ⟨p, e, h⟩ := RV.at hrv 1 (by simp [ivs]); cases e; exact h
  have k2 : w1.cell? ⟨g, 2, none⟩ = some (.int .i64 C) := by obtain ⟨p, e, h⟩ := RV.at hrv 2 (by simp [ivs]); cases e; exact h
  have k3 : w1.cell? ⟨g, 3, none⟩ = some (.int .i64 D) := by obtain ⟨p, e, h⟩ := RV.at hrv 3 (by simp [ivs]); cases e; exact h
  have k4 : w1.cell? ⟨g, 4, none⟩ = some (.int .i64 Z) := by obtain ⟨p, e, h⟩ := RV.at hrv 4 (by simp [ivs]); cases e; exact h
  have HB1 := Lib.hid hB1
  have hB : Below w1.heap.size w1 w1.drew := ⟨rfl, rfl, rfl, Nat.le_refl _, fun _ _ => rfl⟩
  have kp : ∀ w', Below w1.heap.size w1 w' → w'.cell? ⟨g, 0, none⟩ = some (.int .i64 A) ∧ w'.cell? ⟨g, 1, none⟩ = some (.int .i64 B) ∧ w'.cell? ⟨g, 2, none⟩ = some (.int .i64 C) ∧ w'.cell? ⟨g, 3, none⟩ = some (.int .i64 D) :=
    fun w' h => ⟨(h.cell (p := ⟨g, 0, none⟩) hg2).trans k0, (h.cell (p := ⟨g, 1, none⟩) hg2).trans k1, (h.cell (p := ⟨g, 2, none⟩) hg2).trans k2, (h.cell (p := ⟨g, 3, none⟩) hg2).trans k3⟩
  have KP := Lib.hid kp
  clear ho1 hrv hB0 hri hB1 kp
  go_wp2
  go_region_held3 (fun w' => w'.cell? ⟨g, 0, none⟩ = some (.int .i64 A) ∧ w'.cell? ⟨g, 1, none⟩ = some (.int .i64 B) ∧ w'.cell? ⟨g, 2, none⟩ = some (.int .i64 C) ∧ w'.cell? ⟨g, 3, none⟩ = some (.int .i64 D))
    (first
      | exact KP.out _ hB
      | exact KP.out _ (hB.alloc hB.size _))
    (fail)
  go_wp2
  have hb2 : Below w1.heap.size w1 (w1.alloc (.cells #[.int .i64 A, .int .i64 B, .int .i64 C, .int .i64 D] 75)).drew := ⟨rfl, rfl, rfl, by simp, fun k hk => Below.heap_alloc _ _ _ hk⟩
  have hB2 : (w1.alloc (.cells #[.int .i64 A, .int .i64 B, .int .i64 C, .int .i64 D] 75)).drew.heap[w1.heap.size]? = _ := alloc_new w1 (.cells #[.int .i64 A, .int .i64 B, .int .i64 C, .int .i64 D] 75) _ rfl
  generalize (w1.alloc (.cells #[.int .i64 A, .int .i64 B, .int .i64 C, .int .i64 D] 75)).drew = w2 at *
  have l2 := lt_of_block hB2
  have hbb2 := below_then hbb1 hb2 hbb1.size
  have k4' := (hb2.cell (p := ⟨g, 4, none⟩) hg2).trans k4
  have hg3 : g < w2.heap.size := by have := hb2.size; omega
  have hBz := (hb2.block _ (lt_of_block HB1.out)).trans HB1.out
  have hbD : Below w2.heap.size w2 w2.drew := ⟨rfl, rfl, rfl, Nat.le_refl _, fun _ _ => rfl⟩
  have hne : w1.heap.size ≠ w.heap.size := by have := lt_of_block HB1.out; omega
  have hne2 : g ≠ w.heap.size := by omega
  have hS : ∀ w', Chg (fun k => k = w.heap.size) w2 w' → (∀ i, w'.cell? ⟨w1.heap.size, i, none⟩ = (#[.int .i64 A, .int .i64 B, .int .i64 C, .int .i64 D] : Array Value)[i]?) ∧ w'.cell? ⟨g, 4, none⟩ = some (.int .i64 Z) :=
    fun w' h => ⟨cell_blk ((h.block _ l2 hne).trans hB2), (World.cell?_of_block (a := ⟨g, 4, none⟩) (h.block _ hg3 hne2)).trans k4'⟩
  have HS := Lib.hid hS
  have HBZ := Lib.hid hBz
  clear k0 k1 k2 k3 k4 k4' hB2 hBz hS
  have hv : P.okP c = (P.Q.mayP ⟨A, B, C, D⟩ && (Z == 0)) := by rw [HOK.out, deqz]
  rw [hmay] at HM
  rw [hmay, hz] at hv
  have HV := Lib.hid hv
  clear hv
  first
    | (go_region_held3 (fun w' => (∀ i, w'.cell? ⟨w1.heap.size, i, none⟩ = (#[.int .i64 A, .int .i64 B, .int .i64 C, .int .i64 D] : Array Value)[i]?) ∧ w'.cell? ⟨g, 4, none⟩ = some (.int .i64 Z))
        (first
          | exact HS.out _ (Chg.of_below hbD _)
          | exact HS.out _ (Chg.of_below hbP _)
          | exact HS.out _ (chg4 hbP _ _ _ _))
        (first
          | (go_at_call 66; refine (HM.out _).mono ?_; rintro e wp ⟨rfl, hbp⟩; have hbP := below_then hbD hbp hbD.size; have cz := cell_blk ((hbP.block _ (lt_of_block HBZ.out)).trans HBZ.out); have fz := free_blk ((hbP.block _ (lt_of_block HBZ.out)).trans HBZ.out))))
    | fail "held"
  all_goals
    have hbb9 := below_then hbb2 hbP hbb2.size
    have hBzP := (hbP.block _ (lt_of_block HBZ.out)).trans HBZ.out
    have HBP := Lib.hid hBzP
    clear hBzP hbp hbP
    go_wp2
    generalize hW2 : World.setCell _ ⟨w.heap.size, 3, none⟩ _ = W2
    have hb9 : Below w.heap.size w W2 := by rw [← hW2]; exact set4' hbb9 _ _ _ _
    have cl2 := cell_blk (show W2.heap[w.heap.size]? = _ by rw [← hW2]; exact blk4 HBP.out _ _ _ _)
    exact bodyPost_ret (v := .tuple #[.agg #[.int .i64 A, .int .i64 B, .int .i64 C, .int .i64 D], .bool _]) (by first | (simp [results, Try.results70, go_sem, cl2]; done) | (simp [results, Try.results70, go_sem, cl2]; rfl)) rfl ⟨by first | (rw [HV.out]; done) | (rw [HV.out]; rfl), hb9⟩
set_option maxRecDepth 100000 in
set_option maxHeartbeats 1600000 in
theorem rdP_any (a : Option Addr) (cap : Nat) (c : List UInt8) (w : World) (hr : Rd w a 12 c) :
    Calls Try.prog 70 #[.slice a 12 cap] w fun e w' => e = .returned (.tuple #[qV (P.decP c), .bool (P.okP c)]) ∧ Below w.heap.size w w' := by
  rcases hmay : (P.decP c).mayP with _ | _
  · exact rdP_f a cap c w hr hmay
  rcases hz : ((P.get c 10 2).1 == 0) with _ | _
  · exact rdP_tf a cap c w hr hmay hz
  · exact rdP_tt a cap c w hr hmay hz
end Go.Proofs.Ytpdmhnppibfmkaa
