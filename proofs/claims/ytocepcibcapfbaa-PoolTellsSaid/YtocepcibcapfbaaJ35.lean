/- The pool: tries. -/
import Derived.Test.YtocepcibcapfbaaJ34
namespace Go.Proofs.Ytocepcibcapfbaa
set_option linter.unusedVariables false
set_option linter.unusedSimpArgs false
open Go.RowKit

theorem tries1_idle (p : Addr) (w : World) :
    CallsD Try.prog 48 #[.pointer (some p)] .returning w fun e u' w' => e = .returned (.tuple #[]) ∧ u' = .returning ∧ w' = w := by
  refine callsD_of_wpS Try.func48 rfl fun c₀ cs hu => ?_
  apply wpS_seq
  apply wpS_region
  simp [wpOpsS, go_sem, recoverD, hu, Try.ntmps48, Exit.thenS]
  apply wpS_seq
  apply wpS_region
  simp [wpOpsS, go_sem, Exit.thenS]
  refine wpS_cond (t := false) (by simp [Act.eval, Array.replicate]) ?_
  simp only [Bool.false_eq_true, if_false]
  refine wpS_of_wp (wp_skip ?_)
  cases c₀
  simp_all [bodyPostS, results, Try.results48]
set_option maxRecDepth 100000 in
theorem tap_errno (k : Int) (w : World) : (Instr.typeAssert (.iface 24 (.int .i64 k)) 20 24 true).run Try.prog w = .ok (.tuple #[.int .i64 k, .bool true]) w := by
  simp [Instr.typeAssert, run_underlying Try.underlying24, go_sem, Result.andThen]
set_option maxRecDepth 100000 in
set_option maxHeartbeats 1600000 in
theorem tries1_catch (g : Nat) (k x : Int) (older : List PanicEntry) (w : World) (hc : w.cell? ⟨g, 0, none⟩ = some (.int .i64 x)) (hz : w.frozen? ⟨g, 0, none⟩ = false) :
    CallsD Try.prog 48 #[.pointer (some ⟨g, 0, none⟩)] (.panicking ({ v := .iface 24 (.int .i64 k), recovered := false } :: older)) w fun e u' w' =>
      e = .returned (.tuple #[]) ∧ u' = .panicking ({ v := .iface 24 (.int .i64 k), recovered := true } :: older) ∧ w' = w.setCell ⟨g, 0, none⟩ (.int .i64 k) := by
  have hta := tap_errno k
  refine callsD_of_wpS Try.func48 rfl fun c₀ cs hu => ?_
  apply wpS_seq
  apply wpS_region
  simp [wpOpsS, go_sem, recoverD, hu, Try.ntmps48, Exit.thenS]
  apply wpS_seq
  apply wpS_region
  simp [wpOpsS, go_sem, Exit.thenS]
  refine wpS_cond (t := true) (by simp [Act.eval, Array.replicate]) ?_
  simp only [if_true]
  apply wpS_seq
  apply wpS_region
  simp [wpOpsS, go_sem, hta, Exit.thenS]
  apply wpS_seq
  apply wpS_seq
  apply wpS_region
  simp [wpOpsS, go_sem, Exit.thenS]
  refine wpS_cond (t := false) (by simp [Act.eval, Array.replicate]) ?_
  simp only [Bool.false_eq_true, if_false]
  refine wpS_of_wp (wp_skip ?_)
  simp only [Exit.thenS]
  apply wpS_region
  simp [wpOpsS, go_sem, hc, hz, bodyPostS, results, Try.results48]
/-- How tries ends: what was done ended with the error k. -/
def TrE (R : Int → World → Prop) (w : World) (e : Ending) (w' : World) : Prop := ∃ k w2, e = .returned (.int .i64 k) ∧ R k w2 ∧ w2.heap[w.heap.size]? = some (.cells #[.int .i64 0] 24 (0, 0)) ∧ w' = w2.setCell ⟨w.heap.size, 0, none⟩ (.int .i64 k)
set_option maxRecDepth 100000 in
set_option maxHeartbeats 3200000 in
theorem tries_any (p : Nat) (fd : FuncId) (caps : Array Value) (R : Int → World → Prop) (w : World) (hm : ∀ W, Below w.heap.size w W → Calls Try.prog 35 #[.pointer (some ⟨p, 0, none⟩)] W fun e w' => e = .returned (.bool true) ∧ W = w')
    (hen : ∀ args w, (callFunc fd args).run Try.prog w = .ok (.enter fd args) w)
    (hdo : Calls Try.prog fd caps (w.alloc (.cells #[.int .i64 0] 24)) fun e w2 => w2.heap[w.heap.size]? = some (.cells #[.int .i64 0] 24 (0, 0)) ∧ ((e = .returned (.tuple #[]) ∧ R 0 w2) ∨ ∃ k, e = panE k ∧ R k w2)) :
    Calls Try.prog 24 #[.pointer (some ⟨p, 0, none⟩), .func (.func fd) #[] caps] w (TrE R w) := by
  have hmf : ∀ (fn : Fn) (first cap : Array Value) (w : World), (Instr.makeFunc fn first cap).run Try.prog w = .ok (.func fn first cap) w := fun _ _ _ _ => rfl
  obtain ⟨w0, hw0⟩ : ∃ w0, w0 = w.alloc (.cells #[.int .i64 0] 24) := ⟨_, rfl⟩
  have hb0 : Below w.heap.size w w0 := by rw [hw0]; exact (Below.refl _ w).alloc (Nat.le_refl _) _
  rw [← hw0] at hdo
  have HM := Lib.hid (hm w0 hb0)
  have HEN := Lib.hid hen
  have HDO := Lib.hid hdo
  clear hm hen hdo hb0
  go_enter_defers Try.func24, Try.ntmps24
  go_wp2_with fail
  rw [← hw0]
  clear hw0
  refine HM.out.mono ?_
  rintro e w1 ⟨rfl, rfl⟩
  go_wp2_with fail
  rw [HEN.out, Oper.upon_enter]
  refine HDO.out.mono ?_
  rintro e w2 ⟨kb, ⟨rfl, hR⟩ | ⟨k, rfl, hR⟩⟩
  · have gb := cell_blk kb
    have fb := free_blk kb
    have hcz := cell_blk (blk_setCell kb 0 (.int .i64 0))
    have HF := Lib.hid (show TrE R w (.returned (.int .i64 0)) (w2.setCell ⟨w.heap.size, 0, none⟩ (.int .i64 0)) from ⟨0, w2, rfl, hR, kb, rfl⟩)
    clear hR kb
    go_wp2
    refine leaves_cons (f := 48) (args := #[.pointer (some ⟨w.heap.size, 0, none⟩)]) (by simp) (by simp [go_sem]) ?_
    refine (tries1_idle _ _).mono ?_
    rintro e u' w'' ⟨rfl, rfl, rfl⟩
    have HR := HF.out
    simp [Leaves, settle, results, Try.results24, go_sem, hcz]
    exact HR
  · refine leaves_cons (f := 48) (args := #[.pointer (some ⟨w.heap.size, 0, none⟩)]) (by simp) (by simp [go_sem]) ?_
    refine (tries1_catch w.heap.size k 0 [] _ (cell_blk kb 0) (free_blk kb 0)).mono ?_
    rintro e u' w'' ⟨rfl, rfl, rfl⟩
    have hcz := cell_blk (blk_setCell kb 0 (.int .i64 k))
    simp [Leaves, settle, results, Try.results24, go_sem, hcz]
    exact ⟨k, w2, rfl, hR, kb, rfl⟩
end Go.Proofs.Ytocepcibcapfbaa
