/- The walk of chapter 7: Decode, of a page that opens. -/
import Derived.Test.YtpdmhnppibfmkaaSpK
namespace Go.Proofs.Ytpdmhnppibfmkaa
set_option linter.unusedVariables false
set_option linter.unusedSimpArgs false
open Go.RowKit

/-- The first j numbers, the rest noughts. -/
def cutS (x : P.Sup) (j : Nat) : P.Sup := ⟨if 0 < j then x.g else 0, if 1 < j then x.p else 0, if 2 < j then x.r else 0, if 3 < j then x.h else 0, if 4 < j then x.b else 0, if 5 < j then x.l else 0, if 6 < j then x.s else 0, if 7 < j then x.f else 0⟩
theorem cut_succ (x : P.Sup) (j : Nat) (h : j < 8) : (supC (cutS x j)).setIfInBounds j (.int .i64 (val x j)) = supC (cutS x (j + 1)) := by
  match j, h with
  | 0, _ | 1, _ | 2, _ | 3, _ | 4, _ | 5, _ | 6, _ | 7, _ => simp [supC, cutS, val]
theorem cut_all (x : P.Sup) : cutS x 8 = x := by simp [cutS]
theorem cut_none (x : P.Sup) : cutS x 0 = .zero := by simp [cutS, P.Sup.zero]
/-- Are the first j numbers there? -/
def okN (b : List UInt8) (o : Bool) : Nat → Bool
  | 0 => o
  | j + 1 => okN b o j && (P.get b (offs j : Nat) (sz j : Nat)).2
theorem okN_all (b : List UInt8) (o : Bool) (h : b.length = 248) : okN b o 8 = (o && (P.get b 0 8).2) := by
  have e (at_ n : Nat) (h1 : 1 ≤ n) (h7 : n ≤ 7) (h2 : at_ + n ≤ 248) := get_fits b at_ n h1 h7 (by omega)
  have e1 := e 8 4 (by omega) (by omega) (by omega)
  have e2 := e 12 4 (by omega) (by omega) (by omega)
  have e3 := e 16 2 (by omega) (by omega) (by omega)
  have e4 := e 18 4 (by omega) (by omega) (by omega)
  have e5 := e 22 4 (by omega) (by omega) (by omega)
  have e6 := e 26 4 (by omega) (by omega) (by omega)
  have e7 := e 30 4 (by omega) (by omega) (by omega)
  simp only [okN]
  show (((((((( o && (P.get b (0 : Nat) (8 : Nat)).2) && (P.get b (8 : Nat) (4 : Nat)).2) && (P.get b (12 : Nat) (4 : Nat)).2) && (P.get b (16 : Nat) (2 : Nat)).2) && (P.get b (18 : Nat) (4 : Nat)).2) && (P.get b (22 : Nat) (4 : Nat)).2) && (P.get b (26 : Nat) (4 : Nat)).2) && (P.get b (30 : Nat) (4 : Nat)).2) = _
  rw [e1, e2, e3, e4, e5, e6, e7]
  simp
end Go.Proofs.Ytpdmhnppibfmkaa
