/- The pool: Unpin, Forget. -/
import Derived.Test.YtocepcibcapfbaaJ36
namespace Go.Proofs.Ytocepcibcapfbaa
set_option linter.unusedVariables false
set_option linter.unusedSimpArgs false
open Go.RowKit
variable {B o c : Nat} {w : World} {p d np N : Nat} {x : P.Po}

theorem unpin1_en (args : Array Value) (w : World) : (callFunc 38 args).run Try.prog w = .ok (.enter 38 args) w :=
  enter_of Try.func38 (by kernel_rfl) (by kernel_rfl) args w
/-- A cell of a block that was made. -/
theorem box_at {w w' : World} {k : Nat} {v : Value} {t : TypeId} (h : w.heap[k]? = some (.cells #[v] t (0, 0))) (hb : Below w.heap.size w w') : w'.cell? ⟨k, 0, none⟩ = some v := by
  rw [cell_blk ((hb.block k (lt_of_block h)).trans h)]
  rfl
theorem punpin_any (h : PoIs B o c w p d np N x) (n : Int) (hn : inI n) : Calls Try.prog 14 #[.pointer (some ⟨p, 0, none⟩), .int .i64 n] w (OpE B o c p d np N (x.unP n) (x.unE n) w) := by
  have hmf : ∀ (fn : Fn) (first cap : Array Value) (w : World), (Instr.makeFunc fn first cap).run Try.prog w = .ok (.func fn first cap) w := fun _ _ _ _ => rfl
  obtain ⟨wb, hwb⟩ : ∃ wb, wb = (w.alloc (.cells #[.pointer (some ⟨p, 0, none⟩)] 27)).alloc (.cells #[.int .i64 n] 3) := ⟨_, rfl⟩
  have hb : Below w.heap.size w wb := by rw [hwb]; exact ((Below.refl _ w).alloc (Nat.le_refl _) _).alloc (by simp) _
  have k0 : wb.heap[w.heap.size]? = some (.cells #[.pointer (some ⟨p, 0, none⟩)] 27 (0, 0)) := by rw [hwb]; exact alloc_old (alloc_new _ _ _ rfl) _
  have k1 : wb.heap[w.heap.size + 1]? = some (.cells #[.int .i64 n] 3 (0, 0)) := by rw [hwb]; exact alloc_new _ _ _ (by simp)
  have HT := Lib.hid (tryop (h.below hb) _ #[.pointer (some ⟨w.heap.size, 0, none⟩), .pointer (some ⟨w.heap.size + 1, 0, none⟩)] unpin1_en (fun w1 hw1 hP => unpin1_any hP n hn w.heap.size (w.heap.size + 1) (box_at k0 hw1) (box_at k1 hw1)))
  have HB := Lib.hid hb
  clear h hb k0 k1
  go_enter Try.func14, Try.ntmps14
  go_wp2_with fail
  rw [← hwb]
  clear hwb
  refine HT.out.mono ?_
  rintro e w2 ⟨rfl, hV⟩
  have HF := Lib.hid (show OpE B o c p d np N (x.unP n) (x.unE n) w (.returned (.int .i64 (x.unE n))) w2 from ⟨rfl, hV.pre HB.out⟩)
  generalize x.unE n = E at *
  clear hV
  go_wp2
  go_ret
  exact HF.out
end Go.Proofs.Ytocepcibcapfbaa
