/- Arguments that came in: a slice of ints. -/
import Derived.Test.YtocepcibcapfbaaJ03
import Derived.Test.YtocepcibcapfbaaJ04
import Derived.Deep.Slices
namespace Go.Proofs.Ytocepcibcapfbaa
set_option linter.unusedVariables false
set_option linter.unusedSimpArgs false
open Go.Deep Go.ChangeShapes Go.WideShapes Go.ChangeAt Go.RowKit Go.Joins

set_option maxRecDepth 100000 in
theorem open_ints {H : Type} {enc : TypeId × Value → H} {W : World} {base : Nat} {hd : Bool} {a : Option Addr} {len cap : Nat} {d : DataW H} {p : List MemPlace}
    (h : DataW.Trod enc Try.prog W base (fun _ => true) hd 35 (.slice a len cap) d p) : ∃ l, RI W a len l ∧ len ≤ cap := by
  obtain ⟨fuel, hf⟩ := h
  rcases open_slice Try.underlying35 hf with ⟨hcs, _⟩ | ⟨x, l, c, m, n, D, Pl, hcs, _, hl, hm, hmm, _, hx⟩
  · simp [Value.cells] at hcs
    obtain ⟨rfl, rfl, rfl⟩ := hcs
    exact ⟨[], RV.nil _ _ _, Nat.le_refl _⟩
  · simp [Value.cells] at hcs
    obtain ⟨rfl, rfl, rfl⟩ := hcs
    have hm' : m = cap := by simpa using hmm
    have hc : Try.prog.cellsOf 3 = 1 := by kernel_rfl
    have each : ∀ i, i < len → ∃ q : Int, W.cell? (x.add i) = some (.int .i64 q) := by
      intro i hi
      obtain ⟨cs', h1, h2⟩ := hx i (by omega)
      rw [hc] at h1
      obtain ⟨q, hq, -, -⟩ := DataW.trod_int Try.underlying3 h2
      subst hq
      obtain ⟨_, hlen, hcell⟩ := World.cells?_some h1
      have e := hcell 0 (by omega)
      rw [add_add] at e
      refine ⟨q, ?_⟩
      simpa using e
    obtain ⟨q, hq⟩ := choose_lt each
    refine ⟨(List.range len).map q, ⟨by rw [ivs_length]; simp, by omega, fun i hi => ⟨x, rfl, ?_⟩⟩, hl⟩
    rw [ivs_length] at hi
    simp at hi
    rw [hq i hi]
    simp [ivs, iv]
end Go.Proofs.Ytocepcibcapfbaa
