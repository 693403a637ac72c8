/- The walk of chapter 7: Encode. -/
import Derived.Test.YtpdmhnppibfmkaaSpE
namespace Go.Proofs.Ytpdmhnppibfmkaa
set_option linter.unusedVariables false
set_option linter.unusedSimpArgs false
open Go.RowKit

/-- 'make([]byte, n)' in a region that draws its order. -/
theorem step_make (w : World) {ops : Array Oper} {o : Oper} {a : Act} {K : Act → World → Prop} {Q : Exit → Act → World → Prop} {E : Prop} (hgd : o.guard = none) (s x : Operand)
    (ho : o.op = .makeSlice 24 s x) (n : Nat) (hs : a.eval s = .int .i64 (n : Int)) (hx : a.eval x = .int .i64 (n : Int)) (hn : n ≤ 140737488355328)
    (h : ∀ w', OB w' w.heap.size (.slice (some ⟨w.heap.size, 0, none⟩) n n) (List.replicate n 0) → Below w.heap.size w w' → K (a.put o.dst (.slice (some ⟨w.heap.size, 0, none⟩) n n)) w') :
    if Region.wanted o (yielded ops a.tmps) = true then Oper.wp Try.prog o a w K Q else E := by
  have hw : Region.wanted o (yielded ops a.tmps) = true := by simp [Region.wanted, hgd]
  rw [if_pos hw]
  obtain ⟨i, hi, hz0, hz1, hz2⟩ := info_parts u8_info
  obtain ⟨w', hrun, r1, r2⟩ := run_make_full (P := Try.prog) w w.heap.size 24 5 i _ 1 Try.underlying24 hi hz0 hz1 .i64 .i64 n (by rw [hz2]; omega) (by unfold maxLen; omega) (Nat.le_refl _)
  unfold Oper.wp
  simp [execOp, ho, hs, hx, hrun, Result.andThen]
  exact h w' (OB_made (w := w) (by simpa [Value.cells] using r1)) ((Below.refl _ w).grown r2 (Nat.le_refl _) (by simp))

def sz (j : Nat) : Nat := [8, 4, 4, 2, 4, 4, 4, 4].getD j 0
def val (x : P.Sup) (j : Nat) : Int := [x.g, x.p, x.r, x.h, x.b, x.l, x.s, x.f].getD j 0
def part (x : P.Sup) : Nat → List UInt8
  | 0 => []
  | j + 1 => part x j ++ P.be (sz j) (val x j).toNat
theorem part_all (x : P.Sup) : part x 8 = x.body := by simp [part, sz, val, P.Sup.body]
theorem sz_le (j : Nat) (h : j < 8) : 1 ≤ sz j ∧ sz j ≤ 8 := by
  match j, h with
  | 0, _ | 1, _ | 2, _ | 3, _ | 4, _ | 5, _ | 6, _ | 7, _ => decide
theorem part_length (x : P.Sup) (j : Nat) (h : j ≤ 8) : (part x j).length ≤ 8 * j := by
  induction j with
  | zero => simp [part]
  | succ j ih =>
    have h1 := ih (by omega)
    have h2 := sz_le j (by omega)
    simp [part, P.be_length]
    omega
theorem fields_at (B j : Nat) (h : j < 8) : (fieldsC B).toArray[j * 3]? = some (.int .i64 (sz j : Nat)) ∧ (fieldsC B).toArray[j * 3 + 1]? = some (getV ⟨B, j, none⟩) ∧ (fieldsC B).toArray[j * 3 + 2]? = some (setV ⟨B, j, none⟩) := by
  match j, h with
  | 0, _ | 1, _ | 2, _ | 3, _ | 4, _ | 5, _ | 6, _ | 7, _ => exact ⟨rfl, rfl, rfl⟩
theorem val_ok {x : P.Sup} (he : x.chk = 0) (j : Nat) (h : j < 8) : 0 ≤ val x j ∧ val x j ≤ 1152921504606846976 ∧ val x j < 256 ^ sz j := by
  obtain ⟨g1, p1, r1, h1, b1, l1, s1, f1⟩ := may_bounds he
  match j, h with
  | 0, _ | 1, _ | 2, _ | 3, _ | 4, _ | 5, _ | 6, _ | 7, _ => simp [val, sz]; omega
def supC (x : P.Sup) : Array Value := #[.int .i64 x.g, .int .i64 x.p, .int .i64 x.r, .int .i64 x.h, .int .i64 x.b, .int .i64 x.l, .int .i64 x.s, .int .i64 x.f]
theorem supC_at (x : P.Sup) (j : Nat) (h : j < 8) : (supC x)[j]? = some (.int .i64 (val x j)) := by
  match j, h with
  | 0, _ | 1, _ | 2, _ | 3, _ | 4, _ | 5, _ | 6, _ | 7, _ => rfl

set_option maxRecDepth 100000 in
set_option maxHeartbeats 1600000 in
theorem enc_bad (x : P.Sup) (w : World) (he : x.chk ≠ 0) :
    Calls Try.prog 18 #[supV x] w fun e w' => e = .returned (.tuple #[.slice none 0 0, .int .i64 x.chk]) ∧ Below w.heap.size w w' := by
  have c1 : (x.chk != 0) = true := by simpa using he
  obtain ⟨g, p, r, h, b, l, s, f⟩ := x
  obtain ⟨E, hE⟩ : ∃ E, E = P.Sup.chk ⟨g, p, r, h, b, l, s, f⟩ := ⟨_, rfl⟩
  rw [← hE] at c1 ⊢
  unfold supV
  simp only
  have HC := fun w => chk_any ⟨g, p, r, h, b, l, s, f⟩ w
  rw [← hE] at HC
  unfold supV at HC
  simp only at HC
  have HC := Lib.hid HC
  clear he hE
  go_enter Try.func18, Try.ntmps18
  go_wp2_with fail
  refine (HC.out _).mono ?_
  rintro e w1 ⟨rfl, hb1⟩
  have hb1 := below_alloc1 hb1
  go_wp2
  go_ret2
  exact ⟨rfl, hb1⟩
end Go.Proofs.Ytpdmhnppibfmkaa
