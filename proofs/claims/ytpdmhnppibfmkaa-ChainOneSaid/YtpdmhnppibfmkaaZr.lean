/- Rows of noughts, just made; a number put into one. -/
import Derived.Test.YtpdmhnppibfmkaaPgD
import Derived.Deep.OwnRows
namespace Go.Proofs.Ytpdmhnppibfmkaa
set_option linter.unusedVariables false
set_option linter.unusedSimpArgs false
open Go.RowKit

theorem put_zr (n : Nat) (x : Int) (h1 : 1 ≤ n) (h2 : n ≤ 8) (h3 : 0 ≤ x) (h4 : x ≤ 1152921504606846976) (h5 : x < 256 ^ n) : P.put (List.replicate n 0) 0 (n : Int) x = some (P.be n x.toNat) := by
  have h := put_zeros (n : Int) x (by omega) (by omega) h3 (by omega) (by simpa using h5)
  simpa using h
def zr (n : Nat) : Array Value := (bvs (List.replicate n 0)).toArray
theorem Rd_zr (w : World) (t : TypeId) (n : Nat) (hn : n ≤ maxLen) : Rd (w.alloc (.cells (zr n) t)) (some ⟨w.heap.size, 0, none⟩) n (List.replicate n 0) := by
  have h := Rd_lit w t (List.replicate n (0 : UInt8)) (fr := (0, 0)) (by simpa using hn)
  unfold zr
  simpa using h
set_option maxRecDepth 100000 in
theorem mk_zr (n : Nat) (hn : n ≤ 140737488355328) (w : World) : (Instr.makeSlice 24 (.int .i64 (n : Int)) (.int .i64 (n : Int))).run Try.prog w = .ok (.slice (some ⟨w.heap.size, 0, none⟩) n n) (w.alloc (.cells (zr n) 5)) := by
  have h := run_make_row' (P := Try.prog) 24 5 (.int .u8 0) 1 Try.underlying24 u8_info rfl .i64 .i64 n (by omega) (by omega) w
  rw [h]
  congr 3
  apply Array.ext'
  rw [toList_madeCells_one]
  simp [zr, bvs, bv]
end Go.Proofs.Ytpdmhnppibfmkaa
