/- Superblocks: what a page's bytes say. Plain law. -/
import Derived.Test.YtpdmhnppibfmkaaSup
namespace Go.Proofs.Ytpdmhnppibfmkaa.P
def dec (b : List UInt8) : Sup := ⟨(get b 0 8).1, (get b 8 4).1, (get b 12 4).1, (get b 16 2).1, (get b 18 4).1, (get b 22 4).1, (get b 26 4).1, (get b 30 4).1⟩
def Sup.zero : Sup := ⟨0, 0, 0, 0, 0, 0, 0, 0⟩
def sErr (l : List UInt8) : Int :=
  if openErr l ≠ 0 then openErr l else if openKind l = 1 ∧ openLevel l = 0 ∧ openCount l = 0 ∧ ((openBody l).drop 34).all (· == 0) = true ∧ (dec (openBody l)).chk = 0 then 0 else 4
def sSup (l : List UInt8) : Sup := if sErr l = 0 then dec (openBody l) else .zero
theorem sErr_open {l : List UInt8} (h : openErr l ≠ 0) : sErr l = openErr l ∧ sSup l = .zero := by
  have e : sErr l = openErr l := by simp [sErr, h]
  exact ⟨e, by simp [sSup, e, h]⟩
theorem sErr_bad {l : List UInt8} (h : openErr l = 0) (hn : ¬ (openKind l = 1 ∧ openLevel l = 0 ∧ openCount l = 0 ∧ ((openBody l).drop 34).all (· == 0) = true ∧ (dec (openBody l)).chk = 0)) : sErr l = 4 ∧ sSup l = .zero := by
  have e : sErr l = 4 := by unfold sErr; rw [if_neg (by simpa using h), if_neg hn]
  exact ⟨e, by simp [sSup, e]⟩
theorem sErr_good {l : List UInt8} (h : openErr l = 0) (hn : openKind l = 1 ∧ openLevel l = 0 ∧ openCount l = 0 ∧ ((openBody l).drop 34).all (· == 0) = true ∧ (dec (openBody l)).chk = 0) : sErr l = 0 ∧ sSup l = dec (openBody l) := by
  have e : sErr l = 0 := by unfold sErr; rw [if_neg (by simpa using h), if_pos hn]
  exact ⟨e, by simp [sSup, e]⟩
end Go.Proofs.Ytpdmhnppibfmkaa.P
