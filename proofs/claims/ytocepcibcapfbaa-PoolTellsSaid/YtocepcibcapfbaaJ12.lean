/- The device: op, where a page is read. -/
import Derived.Test.YtocepcibcapfbaaJ11
namespace Go.Proofs.Ytocepcibcapfbaa
set_option linter.unusedVariables false
set_option linter.unusedSimpArgs false
open Go.RowKit

theorem op1_idle (p q r : Addr) (w : World) :
    CallsD Try.prog 51 #[.pointer (some p), .pointer (some q), .pointer (some r)] .returning w fun e u' w' => e = .returned (.tuple #[]) ∧ u' = .returning ∧ w' = w := by
  refine callsD_of_wpS Try.func51 rfl fun c₀ cs hu => ?_
  apply wpS_seq
  apply wpS_region
  simp [wpOpsS, go_sem, recoverD, hu, Try.ntmps51, Exit.thenS]
  apply wpS_seq
  apply wpS_region
  simp [wpOpsS, go_sem, Exit.thenS]
  refine wpS_cond (t := false) (by simp [Act.eval, Array.replicate]) ?_
  simp only [Bool.false_eq_true, if_false]
  refine wpS_of_wp (wp_skip ?_)
  cases c₀
  simp_all [bodyPostS, results, Try.results51]
theorem setCell_chg (w : World) (d k : Nat) (v : Value) : Chg (fun j => j = d) w (w.setCell ⟨d, k, none⟩ v) := (Chg.refl _ w).setCell _ _ (.inr rfl)
end Go.Proofs.Ytocepcibcapfbaa
