/- The pool: Flush, Evict: the calls. -/
import Derived.Test.YtocepcibcapfbaaJ48
namespace Go.Proofs.Ytocepcibcapfbaa
set_option linter.unusedVariables false
set_option linter.unusedSimpArgs false
open Go.RowKit Go.Maps
variable {B o c : Nat} {w : World} {p d np N : Nat} {x : P.Po}

theorem flush1_en (args : Array Value) (w : World) : (callFunc 41 args).run Try.prog w = .ok (.enter 41 args) w :=
  enter_of Try.func41 (by kernel_rfl) (by kernel_rfl) args w
theorem pflush_any (h : PoIs B o c w p d np N x) (hop : x.d.ops < 990000) : Calls Try.prog 18 #[.pointer (some ⟨p, 0, none⟩)] w (OpE B o c p d np N (P.flushP (x.dirt np) x) (P.flushE (x.dirt np) x) w) := by
  have hmf : ∀ (fn : Fn) (first cap : Array Value) (w : World), (Instr.makeFunc fn first cap).run Try.prog w = .ok (.func fn first cap) w := fun _ _ _ _ => rfl
  obtain ⟨wb, hwb⟩ : ∃ wb, wb = w.alloc (.cells #[.pointer (some ⟨p, 0, none⟩)] 27) := ⟨_, rfl⟩
  have hb : Below w.heap.size w wb := by rw [hwb]; exact (Below.refl _ w).alloc (Nat.le_refl _) _
  have k0 : wb.heap[w.heap.size]? = some (.cells #[.pointer (some ⟨p, 0, none⟩)] 27 (0, 0)) := by rw [hwb]; exact alloc_new _ _ _ rfl
  have HT := Lib.hid (tryop (h.below hb) _ #[.pointer (some ⟨w.heap.size, 0, none⟩)] flush1_en (fun w1 hw1 hP => flush1_any hP hop w.heap.size ((hw1.block _ (lt_of_block k0)).trans k0)))
  have HB := Lib.hid hb
  clear h hb k0 hop
  go_enter Try.func18, Try.ntmps18
  go_wp2_with fail
  rw [← hwb]
  clear hwb
  refine HT.out.mono ?_
  rintro e w2 ⟨rfl, hV⟩
  have HF := Lib.hid (show OpE B o c p d np N (P.flushP (x.dirt np) x) (P.flushE (x.dirt np) x) w (.returned (.int .i64 (P.flushE (x.dirt np) x))) w2 from ⟨rfl, hV.pre HB.out⟩)
  generalize P.flushE (x.dirt np) x = E at *
  clear hV
  go_wp2
  go_ret
  exact HF.out
end Go.Proofs.Ytocepcibcapfbaa
