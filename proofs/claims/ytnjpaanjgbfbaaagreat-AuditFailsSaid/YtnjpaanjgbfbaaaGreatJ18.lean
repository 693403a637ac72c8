/- The walk of chapter 7: Encode. -/
import Derived.Deep.OwnRows
import Derived.Test.YtnjpaanjgbfbaaaGreatJ09
import Derived.Test.YtnjpaanjgbfbaaaGreatJ17
namespace Go.Proofs.YtnjpaanjgbfbaaaGreat
set_option linter.unusedVariables false
set_option linter.unusedSimpArgs false
open Go.RowKit

def sz (j : Nat) : Nat := [8, 4, 4, 2, 4, 4, 4, 4].getD j 0
def val (x : P.Sup) (j : Nat) : Int := [x.g, x.p, x.r, x.h, x.b, x.l, x.s, x.f].getD j 0
def part (x : P.Sup) : Nat → List UInt8
  | 0 => []
  | j + 1 => part x j ++ P.be (sz j) (val x j).toNat
theorem sz_le (j : Nat) (h : j < 8) : 1 ≤ sz j ∧ sz j ≤ 8 := by
  match j, h with
  | 0, _ | 1, _ | 2, _ | 3, _ | 4, _ | 5, _ | 6, _ | 7, _ => decide
theorem fields_at (B j : Nat) (h : j < 8) : (fieldsC B).toArray[j * 3]? = some (.int .i64 (sz j : Nat)) ∧ (fieldsC B).toArray[j * 3 + 1]? = some (getV ⟨B, j, none⟩) ∧ (fieldsC B).toArray[j * 3 + 2]? = some (setV ⟨B, j, none⟩) := by
  match j, h with
  | 0, _ | 1, _ | 2, _ | 3, _ | 4, _ | 5, _ | 6, _ | 7, _ => exact ⟨rfl, rfl, rfl⟩
def supC (x : P.Sup) : Array Value := #[.int .i64 x.g, .int .i64 x.p, .int .i64 x.r, .int .i64 x.h, .int .i64 x.b, .int .i64 x.l, .int .i64 x.s, .int .i64 x.f]
theorem supC_at (x : P.Sup) (j : Nat) (h : j < 8) : (supC x)[j]? = some (.int .i64 (val x j)) := by
  match j, h with
  | 0, _ | 1, _ | 2, _ | 3, _ | 4, _ | 5, _ | 6, _ | 7, _ => rfl

end Go.Proofs.YtnjpaanjgbfbaaaGreat
/- The walk of the reference's DecodeSuper. -/
namespace Go.Proofs.YtnjpaanjgbfbaaaGreat
set_option linter.unusedVariables false
set_option linter.unusedSimpArgs false
open Go.RowKit

theorem set8 {w w1 : World} {B : Nat} (h : Below B w w1) (u0 u1 u2 u3 u4 u5 u6 u7 : Value) (o : Obj) (hB : B ≤ w1.heap.size := by first | assumption | omega) :
    Below B w (((((((((w1.setCell ⟨B, 0, none⟩ u0).setCell ⟨B, 1, none⟩ u1).setCell ⟨B, 2, none⟩ u2).setCell ⟨B, 3, none⟩ u3).setCell ⟨B, 4, none⟩ u4).setCell ⟨B, 5, none⟩ u5).setCell ⟨B, 6, none⟩ u6).setCell ⟨B, 7, none⟩ u7).alloc o) :=
  ((((((((h.setCell (Nat.le_refl _) _).setCell (Nat.le_refl _) _).setCell (Nat.le_refl _) _).setCell (Nat.le_refl _) _).setCell (Nat.le_refl _) _).setCell (Nat.le_refl _) _).setCell (Nat.le_refl _) _).setCell (Nat.le_refl _) _).alloc (by simpa [World.setCell] using hB) _
theorem blk8 {w1 : World} {B : Nat} {a0 a1 a2 a3 a4 a5 a6 a7 : Value} {t : TypeId} {fr : Nat × Nat} (h : w1.heap[B]? = some (.cells #[a0, a1, a2, a3, a4, a5, a6, a7] t fr)) (u0 u1 u2 u3 u4 u5 u6 u7 : Value) :
    ((((((((w1.setCell ⟨B, 0, none⟩ u0).setCell ⟨B, 1, none⟩ u1).setCell ⟨B, 2, none⟩ u2).setCell ⟨B, 3, none⟩ u3).setCell ⟨B, 4, none⟩ u4).setCell ⟨B, 5, none⟩ u5).setCell ⟨B, 6, none⟩ u6).setCell ⟨B, 7, none⟩ u7).heap[B]? = some (.cells #[u0, u1, u2, u3, u4, u5, u6, u7] t fr) := by
  have h0 := blk_setCell h 0 u0
  simp only [List.setIfInBounds_toArray, List.set_cons_zero] at h0
  have h1 := blk_setCell h0 1 u1
  simp only [List.setIfInBounds_toArray, List.set_cons_zero, List.set_cons_succ] at h1
  have h2 := blk_setCell h1 2 u2
  simp only [List.setIfInBounds_toArray, List.set_cons_zero, List.set_cons_succ] at h2
  have h3 := blk_setCell h2 3 u3
  simp only [List.setIfInBounds_toArray, List.set_cons_zero, List.set_cons_succ] at h3
  have h4 := blk_setCell h3 4 u4
  simp only [List.setIfInBounds_toArray, List.set_cons_zero, List.set_cons_succ] at h4
  have h5 := blk_setCell h4 5 u5
  simp only [List.setIfInBounds_toArray, List.set_cons_zero, List.set_cons_succ] at h5
  have h6 := blk_setCell h5 6 u6
  simp only [List.setIfInBounds_toArray, List.set_cons_zero, List.set_cons_succ] at h6
  have h7 := blk_setCell h6 7 u7
  simp only [List.setIfInBounds_toArray, List.set_cons_zero, List.set_cons_succ] at h7
  exact h7
def zsup : Value := .agg #[.int .i64 0, .int .i64 0, .int .i64 0, .int .i64 0, .int .i64 0, .int .i64 0, .int .i64 0, .int .i64 0]
set_option maxRecDepth 100000 in
set_option maxHeartbeats 1600000 in
theorem rdec_open (a : Option Addr) (len cap : Nat) (l : List UInt8) (w : World) (hr : Rd w a len l) (hc : len ≤ cap) (he : P.openErr l ≠ 0) :
    Calls Tryz.prog 46 #[.slice a len cap] w fun e w' => e = .returned (.tuple #[zsup, .int .i64 (P.openErr l)]) ∧ Below w.heap.size w w' := by
  have c1 : (P.openErr l != 0) = true := by simpa using he
  have HO := Lib.hid (fun w1 (h : Rd w1 a len l) => ropen_fun a len cap l w1 h hc)
  have HR := Lib.hid hr
  obtain ⟨E, hE⟩ : ∃ E, E = P.openErr l := ⟨_, rfl⟩
  rw [← hE] at c1 ⊢
  have HE := Lib.hid hE
  clear hr he hE
  unfold zsup
  go_enter Tryz.func46, Tryz.ntmps46
  go_wp2_with fail
  refine (HO.out _ (HR.out.below ((Below.refl _ w).alloc (Nat.le_refl _) _))).mono ?_
  rintro e w1 ⟨v, rfl, hown, hb1⟩
  rw [← HE.out]
  have hb := below_alloc1 hb1
  have hB1 := made_below hb1
  have hlt : w.heap.size < w1.heap.size := lt_of_block hB1
  obtain ⟨av, pv, hv, -, -, -, -⟩ := hown.form
  subst hv
  have HB1 := Lib.hid hB1
  clear hown hb1 hB1
  have cl := cell_blk HB1.out
  have fz := free_blk HB1.out
  go_wp2
  generalize hW2 : World.alloc _ _ = W2
  have hb2 : Below w.heap.size w W2 := by rw [← hW2]; exact set8 hb _ _ _ _ _ _ _ _ _
  have cl2 := cell_blk (show W2.heap[w.heap.size]? = _ by rw [← hW2]; exact alloc_old (blk8 HB1.out _ _ _ _ _ _ _ _) _)
  exact bodyPost_ret (v := .tuple #[zsup, .int .i64 E]) (by simp [results, Tryz.results46, zsup, go_sem, cl2]) rfl ⟨rfl, hb2⟩
end Go.Proofs.YtnjpaanjgbfbaaaGreat
