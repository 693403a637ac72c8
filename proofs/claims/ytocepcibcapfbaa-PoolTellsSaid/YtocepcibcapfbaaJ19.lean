/- The device: Read, whatever befalls it. -/
import Derived.Test.YtocepcibcapfbaaJ18
namespace Go.Proofs.Ytocepcibcapfbaa
set_option linter.unusedVariables false
set_option linter.unusedSimpArgs false
open Go.RowKit

/-- How Read ends. -/
def RdF (B d np : Nat) (x : P.Dv) (n : Int) (w : World) (e : Ending) (w' : World) : Prop :=
  (¬ (0 ≤ n ∧ n < (np : Int)) ∧ e = .returned (.tuple #[.slice none 0 0, .int .i64 1]) ∧ Below w.heap.size w w') ∨
  ((0 ≤ n ∧ n < (np : Int)) ∧ DvIs B w' d np x.rdD ∧ Ty B devT w w' ∧ ∃ v, e = .returned (.tuple #[v, .int .i64 x.rdE]) ∧ (x.rdE = 7 → v = .slice none 0 0) ∧ (x.rdE = 0 → OB w' w.heap.size v (P.pgD x.img n.toNat)))
set_option maxRecDepth 100000 in
set_option maxHeartbeats 3200000 in
theorem dreadF (B d np : Nat) (x : P.Dv) (n : Int) (w : World) (h : DvIs B w d np x) (hop : x.ops < 1000000) :
    Calls Try.prog 12 #[.pointer (some ⟨d, 0, none⟩), .int .i64 n] w (RdF B d np x n w) := by
  have hmf : ∀ (fn : Fn) (first cap : Array Value) (w : World), (Instr.makeFunc fn first cap).run Try.prog w = .ok (.func fn first cap) w := fun _ _ _ _ => rfl
  have HM := Lib.hid (fun w (h : DvIs B w d np x) => dfmade_any B d np x w h)
  obtain ⟨b, hb⟩ : ∃ b, b = decide (0 ≤ n ∧ n < (np : Int)) := ⟨_, rfl⟩
  have HT := Lib.hid (fun w (h : DvIs B w d np x) => dfthere_any B d np x n b w h hb.symm)
  have HBB := Lib.hid hb
  obtain ⟨w0, hw0⟩ : ∃ w0, w0 = (w.alloc (.cells #[.pointer (some ⟨d, 0, none⟩)] 23)).alloc (.cells #[.int .i64 n] 3) := ⟨_, rfl⟩
  have hb0 : Below w.heap.size w w0 := by rw [hw0]; exact (((Below.refl _ w).alloc (Nat.le_refl _) _).alloc (by simp) _)
  have k0 : w0.heap[w.heap.size]? = some (.cells #[.pointer (some ⟨d, 0, none⟩)] 23 (0, 0)) := by rw [hw0]; exact alloc_old (alloc_new _ _ _ rfl) _
  have k1 : w0.heap[w.heap.size + 1]? = some (.cells #[.int .i64 n] 3 (0, 0)) := by rw [hw0]; exact alloc_new _ _ _ (by simp)
  have HZ := Lib.hid (show w0.heap.size = w.heap.size + 2 by rw [hw0]; simp)
  have H0 := Lib.hid (h.below hb0)
  have HB0 := Lib.hid hb0
  have K0 := Lib.hid k0
  have K1 := Lib.hid k1
  have HOP := Lib.hid hop
  have g0 := cell_blk k0
  have g1 := cell_blk k1
  clear h hb0 k0 k1 hop hb
  go_enter Try.func12, Try.ntmps12
  go_wp2_with fail
  rw [← hw0]
  clear hw0
  refine (HM.out _ H0.out).mono ?_
  rintro e w1 ⟨rfl, rfl⟩
  go_wp2_with fail
  refine (HT.out _ H0.out).mono ?_
  rintro e w1 ⟨rfl, rfl⟩
  rcases b with _ | _
  · have HF := Lib.hid (show RdF B d np x n w (.returned (.tuple #[.slice none 0 0, .int .i64 1])) w0 from .inl ⟨of_decide_eq_false HBB.out.symm, rfl, HB0.out⟩)
    go_wp2
    go_ret2
    exact HF.out
  have hr := of_decide_eq_true HBB.out.symm
  obtain ⟨m, rfl⟩ : ∃ m : Nat, n = (m : Int) := ⟨n.toNat, by omega⟩
  have HR := Lib.hid hr
  have hz := HZ.out
  clear hr
  go_wp2_with fail
  obtain ⟨w2, hw2⟩ : ∃ w2, w2 = w0.alloc (.cells #[.slice none 0 0] 31) := ⟨_, rfl⟩
  rw [← hw2]
  have hb2 : Below w0.heap.size w0 w2 := by rw [hw2]; exact (Below.refl _ w0).alloc (Nat.le_refl _) _
  have hb02 := below_then HB0.out hb2 HB0.out.size
  have k2 : w2.heap[w.heap.size + 2]? = some (.cells #[.slice none 0 0] 31 (0, 0)) := by rw [hw2]; exact alloc_new _ _ _ HZ.out.symm
  have k0' := (hb2.block _ (lt_of_block K0.out)).trans K0.out
  have k1' := (hb2.block _ (lt_of_block K1.out)).trans K1.out
  have H2 := H0.out.below hb2
  clear hw2 g0 g1
  refine (opread w w.heap.size (w.heap.size + 1) (w.heap.size + 2) m B d np x w2 H2 (by have := HR.out; omega) HOP.out hb02 k0' k1' k2 (by omega)).mono ?_
  rintro e w3 ⟨rfl, hD, hT, v, k3, hv7, hv0⟩
  have g3 := cell_blk k3
  have HE := Lib.hid (show RdF B d np x (m : Int) w (.returned (.tuple #[v, .int .i64 x.rdE])) w3 from .inr ⟨HR.out, hD, hT, v, rfl, hv7, fun h0 => by rw [show ((m : Int)).toNat = m from by omega]; exact (hv0 h0).mono hb02.size⟩)
  obtain ⟨E, hE⟩ : ∃ E, E = x.rdE := ⟨_, rfl⟩
  rw [← hE] at HE ⊢
  clear hD hT hv7 hv0 H2 k0' k1' k2 k3 hE hb2 hb02
  go_wp2
  go_ret2
  exact HE.out
end Go.Proofs.Ytocepcibcapfbaa
