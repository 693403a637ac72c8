/- The walk of chapter 8: what reads one kid. -/
import Derived.Test.YtpdmhnppibfmkaaClH
namespace Go.Proofs.Ytpdmhnppibfmkaa
set_option linter.unusedVariables false
set_option linter.unusedSimpArgs false
open Go.RowKit

set_option maxRecDepth 100000 in
set_option maxHeartbeats 6400000 in
theorem rdK_any (a : Option Addr) (cap : Nat) (c : List UInt8) (w : World) (hr : Rd w a 20 c) :
    Calls Try.prog 78 #[.slice a 20 cap] w fun e w' => e = .returned (.tuple #[qV (kidX c), .bool (P.okK c)]) ∧ Below w.heap.size w w' := by
  have hn := numK c hr.1
  have hok : P.okK c = (kidX c).mayK := (kidX_ok c).1.symm
  have HM := Lib.hid (fun w => mayK_any (kidX c) w)
  generalize kidX c = Q at *
  obtain ⟨A, B, C, D⟩ := Q
  simp only at hn
  have HN := Lib.hid hn
  have HOK := Lib.hid hok
  have HR := Lib.hid hr
  unfold qV at HM ⊢
  simp only at HM ⊢
  clear hn hok hr
  go_enter Try.func78, Try.ntmps78
  go_wp2_with fail
  have hb0 : Below w.heap.size w ((w.alloc (.cells #[.int .i64 0, .int .i64 0, .int .i64 0, .int .i64 0] 121)).alloc (.cells #[.int .i64 4, .int .i64 4, .int .i64 8, .int .i64 4] 3)) := ((Below.refl _ w).alloc (Nat.le_refl _) _).alloc (by simp) _
  have hB0 : ((w.alloc (.cells #[.int .i64 0, .int .i64 0, .int .i64 0, .int .i64 0] 121)).alloc (.cells #[.int .i64 4, .int .i64 4, .int .i64 8, .int .i64 4] 3)).heap[w.heap.size]? = _ := alloc_old (alloc_new _ _ _ rfl) _
  have hri : RI ((w.alloc (.cells #[.int .i64 0, .int .i64 0, .int .i64 0, .int .i64 0] 121)).alloc (.cells #[.int .i64 4, .int .i64 4, .int .i64 8, .int .i64 4] 3)) (some ⟨w.heap.size + 1, 0, none⟩) 4 [4, 4, 8, 4] := by
    have h := RI_lit (w.alloc (.cells #[.int .i64 0, .int .i64 0, .int .i64 0, .int .i64 0] 121)) 3 [4, 4, 8, 4] (fr := (0, 0)) (by simp [maxLen])
    have e : (w.alloc (.cells #[.int .i64 0, .int .i64 0, .int .i64 0, .int .i64 0] 121)).heap.size = w.heap.size + 1 := by simp
    rw [e] at h
    exact h
  generalize ((w.alloc (.cells #[.int .i64 0, .int .i64 0, .int .i64 0, .int .i64 0] 121)).alloc (.cells #[.int .i64 4, .int .i64 4, .int .i64 8, .int .i64 4] 3)) = w0 at *
  have l0 : w.heap.size < w0.heap.size := lt_of_block hB0
  refine (numbers_any _ _ _ _ _ _ _ c _ hri (HR.out.below hb0) (by omega) (by simp)).mono ?_
  rintro e w1 ⟨v1, rfl, ho1, hb1⟩
  rw [HN.out] at ho1
  have hbb1 := below_then hb0 hb1 hb0.size
  obtain ⟨g, q, hv1, hg1, hg2, hrv, -⟩ := ho1.pos (by omega)
  subst hv1
  have hB1 := (hb1.block _ l0).trans hB0
  have k0 : w1.cell? ⟨g, 0, none⟩ = some (.int .i64 A) := by obtain ⟨p, e, h⟩ := RV.at hrv 0 (by simp [ivs]); cases e; exact h
  have k1 : w1.cell? ⟨g, 1, none⟩ = some (.int .i64 B) := by obtain ⟨p, e, h⟩ := RV.at hrv 1 (by simp [ivs]); cases e; exact h
  have k2 : w1.cell? ⟨g, 2, none⟩ = some (.int .i64 C) := by obtain ⟨p, e, h⟩ := RV.at hrv 2 (by simp [ivs]); cases e; exact h
  have k3 : w1.cell? ⟨g, 3, none⟩ = some (.int .i64 D) := by obtain ⟨p, e, h⟩ := RV.at hrv 3 (by simp [ivs]); cases e; exact h
  have HB1 := Lib.hid hB1
  have hB : Below w1.heap.size w1 w1.drew := ⟨rfl, rfl, rfl, Nat.le_refl _, fun _ _ => rfl⟩
  have kp : ∀ w', Below w1.heap.size w1 w' → w'.cell? ⟨g, 0, none⟩ = some (.int .i64 A) ∧ w'.cell? ⟨g, 1, none⟩ = some (.int .i64 B) ∧ w'.cell? ⟨g, 2, none⟩ = some (.int .i64 C) ∧ w'.cell? ⟨g, 3, none⟩ = some (.int .i64 D) :=
    fun w' h => ⟨(h.cell (p := ⟨g, 0, none⟩) hg2).trans k0, (h.cell (p := ⟨g, 1, none⟩) hg2).trans k1, (h.cell (p := ⟨g, 2, none⟩) hg2).trans k2, (h.cell (p := ⟨g, 3, none⟩) hg2).trans k3⟩
  have KP := Lib.hid kp
  clear ho1 hrv hB0 hri hB1 kp
  go_wp2
  go_region_held3 (fun w' => w'.cell? ⟨g, 0, none⟩ = some (.int .i64 A) ∧ w'.cell? ⟨g, 1, none⟩ = some (.int .i64 B) ∧ w'.cell? ⟨g, 2, none⟩ = some (.int .i64 C) ∧ w'.cell? ⟨g, 3, none⟩ = some (.int .i64 D))
    (first
      | exact KP.out _ hB
      | exact KP.out _ (hB.alloc hB.size _))
    (fail)
  go_wp2
  have hb2 : Below w1.heap.size w1 (w1.alloc (.cells #[.int .i64 A, .int .i64 B, .int .i64 C, .int .i64 D] 121)).drew := ⟨rfl, rfl, rfl, by simp, fun k hk => Below.heap_alloc _ _ _ hk⟩
  have hB2 : (w1.alloc (.cells #[.int .i64 A, .int .i64 B, .int .i64 C, .int .i64 D] 121)).drew.heap[w1.heap.size]? = _ := alloc_new w1 (.cells #[.int .i64 A, .int .i64 B, .int .i64 C, .int .i64 D] 121) _ rfl
  generalize (w1.alloc (.cells #[.int .i64 A, .int .i64 B, .int .i64 C, .int .i64 D] 121)).drew = w2 at *
  have l2 := lt_of_block hB2
  have hbb2 := below_then hbb1 hb2 hbb1.size
  have hg3 : g < w2.heap.size := by have := hb2.size; omega
  have hBz := (hb2.block _ (lt_of_block HB1.out)).trans HB1.out
  have hbD : Below w2.heap.size w2 w2.drew := ⟨rfl, rfl, rfl, Nat.le_refl _, fun _ _ => rfl⟩
  have hne : w1.heap.size ≠ w.heap.size := by have := lt_of_block HB1.out; omega
  have hne2 : g ≠ w.heap.size := by omega
  have hS : ∀ w', Chg (fun k => k = w.heap.size) w2 w' → (∀ i, w'.cell? ⟨w1.heap.size, i, none⟩ = (#[.int .i64 A, .int .i64 B, .int .i64 C, .int .i64 D] : Array Value)[i]?) :=
    fun w' h => cell_blk ((h.block _ l2 hne).trans hB2)
  have HS := Lib.hid hS
  have HBZ := Lib.hid hBz
  clear k0 k1 k2 k3 hB2 hBz hS
  have hv := HOK.out
  have HV := Lib.hid hv
  clear hv
  first
    | (go_region_held3 (fun w' => (∀ i, w'.cell? ⟨w1.heap.size, i, none⟩ = (#[.int .i64 A, .int .i64 B, .int .i64 C, .int .i64 D] : Array Value)[i]?))
        (first
          | exact HS.out _ (Chg.of_below hbD _)
          | exact HS.out _ (Chg.of_below hbP _)
          | exact HS.out _ (chg4 hbP _ _ _ _))
        (first
          | (go_at_call 79; refine (HM.out _).mono ?_; rintro e wp ⟨rfl, hbp⟩; have hbP := below_then hbD hbp hbD.size; have cz := cell_blk ((hbP.block _ (lt_of_block HBZ.out)).trans HBZ.out); have fz := free_blk ((hbP.block _ (lt_of_block HBZ.out)).trans HBZ.out))))
    | fail "held"
  all_goals
    have hbb9 := below_then hbb2 hbP hbb2.size
    have hBzP := (hbP.block _ (lt_of_block HBZ.out)).trans HBZ.out
    have HBP := Lib.hid hBzP
    clear hBzP hbp hbP
    go_wp2
    generalize hW2 : World.setCell _ ⟨w.heap.size, 3, none⟩ _ = W2
    have hb9 : Below w.heap.size w W2 := by rw [← hW2]; exact set4' hbb9 _ _ _ _
    have cl2 := cell_blk (show W2.heap[w.heap.size]? = _ by rw [← hW2]; exact blk4 HBP.out _ _ _ _)
    exact bodyPost_ret (v := .tuple #[.agg #[.int .i64 A, .int .i64 B, .int .i64 C, .int .i64 D], .bool _]) (by first | (simp [results, Try.results78, go_sem, cl2]; done) | (simp [results, Try.results78, go_sem, cl2]; rfl)) rfl ⟨by first | (rw [HV.out]; done) | (rw [HV.out]; rfl), hb9⟩
end Go.Proofs.Ytpdmhnppibfmkaa
