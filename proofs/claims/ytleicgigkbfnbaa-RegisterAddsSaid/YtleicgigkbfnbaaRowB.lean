/- Arguments that came in: a slice of slices of bytes. -/
import Derived.Test.YtleicgigkbfnbaaRow
import Derived.Test.YtleicgigkbfnbaaRb
import Derived.Deep.Slices
namespace Go.Proofs.Ytleicgigkbfnbaa
set_option linter.unusedVariables false
set_option linter.unusedSimpArgs false
open Go.Deep Go.ChangeShapes Go.WideShapes Go.ChangeAt Go.RowKit Go.Joins

set_option maxRecDepth 100000 in
theorem open_bytes_at {H : Type} {enc : TypeId × Value → H} {W : World} {base : Nat} {hd : Bool} {n : Nat} {v : Value} {x : DataW H × List MemPlace}
    (h : DataW.trod enc Try.prog W base (fun _ => true) hd n 26 [v] = some x) : ∃ (l : List UInt8) (ap : Option Addr) (cp : Nat), v = .slice ap l.length cp ∧ Rd W ap l.length l ∧ l.length ≤ cp := by
  obtain ⟨ap, m, cp, rfl⟩ : ∃ ap m cp, v = .slice ap m cp := by
    rcases open_slice Try.underlying26 h with ⟨hcs, _⟩ | ⟨x, l, c, m, n, D, Pl, hcs, _⟩
    · injection hcs with h1
      exact ⟨_, _, _, h1⟩
    · injection hcs with h1
      exact ⟨_, _, _, h1⟩
  obtain ⟨l, hr, hc⟩ := open_bytes (d := x.1) (p := x.2) ⟨n, h⟩
  have hl := hr.1
  subst hl
  exact ⟨l, ap, cp, rfl, hr, hc⟩
set_option maxRecDepth 100000 in
theorem open_rows {H : Type} {enc : TypeId × Value → H} {W : World} {base : Nat} {hd : Bool} {a : Option Addr} {len cap : Nat} {d : DataW H} {p : List MemPlace}
    (h : DataW.Trod enc Try.prog W base (fun _ => true) hd 32 (.slice a len cap) d p) : ∃ l, RB W a len l ∧ len ≤ cap := by
  obtain ⟨fuel, hf⟩ := h
  rcases open_slice1 Try.underlying32 (by kernel_rfl) hf with ⟨hcs, _⟩ | ⟨x, l, c, m, n, V, D, Pl, hcs, _, hl, hm, hmm, _, hx⟩
  · simp [Value.cells] at hcs
    obtain ⟨rfl, rfl, rfl⟩ := hcs
    exact ⟨[], RB.nil _ _, Nat.le_refl _⟩
  · simp [Value.cells] at hcs
    obtain ⟨rfl, rfl, rfl⟩ := hcs
    have hm' : m = cap := by simpa using hmm
    have each : ∀ i, i < len → ∃ q : List UInt8, ∃ (ap : Option Addr) (cp : Nat), W.cell? (x.add i) = some (.slice ap q.length cp) ∧ Rd W ap q.length q ∧ q.length ≤ cp := by
      intro i hi
      obtain ⟨h1, h2⟩ := hx i (by omega)
      obtain ⟨q, ap, cp, hv, hr, hc⟩ := open_bytes_at h2
      exact ⟨q, ap, cp, by rw [h1, hv], hr, hc⟩
    obtain ⟨q, hq⟩ := choose_lt each
    refine ⟨(List.range len).map q, ⟨by simp, by omega, fun i hi => ?_⟩, hl⟩
    simp only [List.length_map, List.length_range] at hi
    obtain ⟨ap, cp, h1, h2, h3⟩ := hq i hi
    simp only [List.getElem_map, List.getElem_range]
    exact ⟨x, ap, cp, rfl, h1, h2, h3⟩
end Go.Proofs.Ytleicgigkbfnbaa
