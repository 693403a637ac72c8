/- Law 9: the row of wanted pages. -/
import Derived.Test.YtocepcibcapfbaaJ52
import Derived.Test.YtocepcibcapfbaaJ51
namespace Go.Proofs.Ytocepcibcapfbaa
set_option linter.unusedVariables false
set_option linter.unusedSimpArgs false
open Go.RowKit
variable {B c : Nat} {w0 w : World} {p d np N : Nat} {x : P.Po} {vb : Nat} {F : Nat → List UInt8}

/-- Block vb is a row of twenty rows of bytes: F. -/
def WtR (B : Nat) (w : World) (vb : Nat) (F : Nat → List UInt8) : Prop :=
  B ≤ vb ∧ ∃ C : List Value, w.heap[vb]? = some (.cells C.toArray 31 (0, 0)) ∧ C.length = 20 ∧ ∀ i, i < 20 → ∃ a m cp, C[i]? = some (.slice a m cp) ∧ RB w a m (F i)
def blankW : Array Value := (List.replicate 20 (Value.slice none 0 0)).toArray
theorem mk_blankW (w : World) : (Instr.makeSlice 41 (.int .i64 20) (.int .i64 20)).run Try.prog w = .ok (.slice (some ⟨w.heap.size, 0, none⟩) 20 20) (w.alloc (.cells blankW 31)) := by
  kernel_rfl
theorem RB.nil (w : World) : RB w none 0 [] := ⟨Rd.nil _ _, fun h => by omega⟩
theorem WtR.new (w : World) (hB : B ≤ w.heap.size) : WtR B (w.alloc (.cells blankW 31)) w.heap.size (fun _ => []) :=
  ⟨hB, List.replicate 20 (.slice none 0 0), alloc_new _ _ _ rfl, by simp, fun i hi => ⟨none, 0, 0, by rw [List.getElem?_replicate, if_pos hi], RB.nil _⟩⟩
theorem WtR.step {w' : World} {x' : P.Po} {c' : Nat} (h : WtR B w vb F) (hG : PoG B c' w0 w p d np N x' w') : WtR B w' vb F := by
  obtain ⟨hB, C, h1, h2, h3⟩ := h
  refine ⟨hB, C, hG.box vb _ _ h1 (by unfold poT devT; decide) (by decide) (by decide), h2, fun i hi => ?_⟩
  obtain ⟨a, m, cp, h4, h5⟩ := h3 i hi
  exact ⟨a, m, cp, h4, hG.bytes _ _ _ h5⟩
theorem WtR.below {w' : World} (h : WtR B w vb F) (hb : Below w.heap.size w w') : WtR B w' vb F := by
  obtain ⟨hB, C, h1, h2, h3⟩ := h
  refine ⟨hB, C, (hb.block _ (lt_of_block h1)).trans h1, h2, fun i hi => ?_⟩
  obtain ⟨a, m, cp, h4, h5⟩ := h3 i hi
  exact ⟨a, m, cp, h4, h5.below hb⟩
theorem WtR.at (h : WtR B w vb F) (i : Nat) (hi : i < 20) : ∃ a m cp, w.cell? ⟨vb, i, none⟩ = some (.slice a m cp) ∧ RB w a m (F i) := by
  obtain ⟨hB, C, h1, h2, h3⟩ := h
  obtain ⟨a, m, cp, h4, h5⟩ := h3 i hi
  exact ⟨a, m, cp, by rw [cell_blk h1, List.getElem?_toArray, h4], h5⟩
theorem WtR.free (h : WtR B w vb F) (i : Nat) : w.frozen? ⟨vb, i, none⟩ = false := by
  obtain ⟨hB, C, h1, h2, h3⟩ := h
  exact free_blk h1 i
def updF (F : Nat → List UInt8) (n : Nat) (b : List UInt8) : Nat → List UInt8 := fun m => if m = n then b else F m
theorem WtR.ty (h : WtR B w vb F) (i : Nat) (v : Value) : Ty B (fun t => t = some 31) w (w.setCell ⟨vb, i, none⟩ v) := by
  obtain ⟨hB, C, h1, h2, h3⟩ := h
  exact (Ty.refl _ _ _).setCell _ _ (.inr ⟨hB, _, tagA_cells h1, rfl⟩)
theorem WtR.set (h : WtR B w vb F) (i : Nat) (hi : i < 20) (a : Option Addr) (m cp : Nat) (b : List UInt8) (hr : RB w a m b) : WtR B (w.setCell ⟨vb, i, none⟩ (.slice a m cp)) vb (updF F i b) := by
  have hT := h.ty i (.slice a m cp)
  obtain ⟨hB, C, h1, h2, h3⟩ := h
  refine ⟨hB, C.set i (.slice a m cp), ?_, by simpa using h2, fun j hj => ?_⟩
  · rw [blk_setCell h1]
    simp
  · unfold updF
    by_cases e : j = i
    · subst e
      rw [if_pos rfl]
      exact ⟨a, m, cp, by rw [List.getElem?_set_self (by omega)], hr.ty hT (by decide)⟩
    · obtain ⟨a', m', cp', h4, h5⟩ := h3 j hj
      rw [if_neg e, List.getElem?_set_ne (fun h => e h.symm)]
      exact ⟨a', m', cp', h4, h5.ty hT (by decide)⟩
theorem WtR.set_at (h : WtR B w vb F) (i : Nat) (hi : i < 20) (v : Value) : (w.setCell ⟨vb, i, none⟩ v).cell? ⟨vb, i, none⟩ = some v := by
  obtain ⟨hB, C, h1, h2, h3⟩ := h
  rw [cell_blk (blk_setCell h1 i v), Array.getElem?_setIfInBounds_self_of_lt (by simp; omega)]
theorem PoL.want (h : PoL B c w0 w p d np N x) (hw : WtR B w vb F) (i : Nat) (v : Value) : PoL B c w0 (w.setCell ⟨vb, i, none⟩ v) p d np N x := by
  have hT := hw.ty i v
  obtain ⟨h1, o, h2⟩ := h
  exact ⟨h1.trans (hT.base h2.hi), o, h2.ty hT bytes_nopo⟩
end Go.Proofs.Ytocepcibcapfbaa
