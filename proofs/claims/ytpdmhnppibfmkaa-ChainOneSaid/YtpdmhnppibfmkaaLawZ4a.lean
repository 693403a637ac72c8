/- The walk of the law ChainOne. Printed by gen_lawz4.py. -/
import Derived.Test.YtpdmhnppibfmkaaLawZ3
import Derived.Test.YtpdmhnppibfmkaaBits
namespace Go.Proofs.Ytpdmhnppibfmkaa
set_option linter.unusedVariables false
set_option linter.unusedSimpArgs false
open Go.RowKit

theorem RI.take {w : World} {a : Option Addr} {n : Nat} {l : List Int} (h : RI w a n l) (k : Nat) (hk : k ≤ n) : RI w a k (l.take k) := by
  have hl := h.len
  have hm := h.2.1
  refine ⟨by rw [ivs_length, List.length_take]; omega, by omega, fun i hi => ?_⟩
  rw [ivs_length, List.length_take] at hi
  obtain ⟨p, hp, hc⟩ := h.at i (by omega)
  exact ⟨p, hp, by rw [hc]; simp [ivs, iv]⟩
theorem cut_dec (A B : List UInt8) (la lb : List Int) (ha : P.fits A la = true) (hb : P.fits B lb = true) (hab : A = B → la = lb) :
    decide (P.cutTo A la la.length = P.cutTo B lb lb.length) = decide (A = B) := by
  apply decide_eq_decide.2
  constructor
  · exact fun h => P.cut_inj A B la lb ha hb h
  · intro h
    rw [h, hab h]
theorem OL.at {w : World} {n : Nat} {a : Option Addr} {m c : Nat} {L : List (List UInt8)} (h : OL w n (.slice a m c) L) (i : Nat) (hi : i < L.length) : ∃ p u, a = some p ∧ w.cell? (p.add i) = some u ∧ OB w n u L[i] := by
  obtain ⟨vs, h1, h2, h3⟩ := h
  obtain ⟨a', c', e, hr, -, -⟩ := h1.form
  cases e
  obtain ⟨p, hp, hcell⟩ := hr.at i (by omega)
  exact ⟨p, vs[i], hp, hcell, h3 i vs[i] L[i] (List.getElem?_eq_getElem (by omega)) (List.getElem?_eq_getElem hi)⟩
end Go.Proofs.Ytpdmhnppibfmkaa
