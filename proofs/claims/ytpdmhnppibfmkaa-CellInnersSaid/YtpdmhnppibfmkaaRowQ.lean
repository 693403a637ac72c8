/- Arguments that came in: a slice of pieces, of kids. -/
import Derived.Test.YtpdmhnppibfmkaaRow
import Derived.Test.YtpdmhnppibfmkaaClI
import Derived.Deep.Slices
namespace Go.Proofs.Ytpdmhnppibfmkaa
set_option linter.unusedVariables false
set_option linter.unusedSimpArgs false
open Go.Deep Go.ChangeShapes Go.WideShapes Go.ChangeAt Go.RowKit Go.Joins

instance : Inhabited P.Q := ⟨⟨0, 0, 0, 0⟩⟩

theorem list4 {α : Type} {cs : List α} (h : cs.length = 4) : ∃ c0 c1 c2 c3, cs = [c0, c1, c2, c3] := by
  match cs, h with
  | [c0, c1, c2, c3], _ => exact ⟨c0, c1, c2, c3, rfl⟩
theorem open_q {H : Type} {enc : TypeId × Value → H} {W : World} {base : Nat} {hd : Bool} {t : TypeId} {f0 f1 f2 f3 : Field} (ht : Try.prog.underlying t = some (.struct #[f0, f1, f2, f3])) (hc : Try.prog.cellsOf t = 4)
    (o0 : f0.offset = 0) (o1 : f1.offset = 1) (o2 : f2.offset = 2) (o3 : f3.offset = 3) (t0 : f0.type = 3) (t1 : f1.type = 3) (t2 : f2.type = 3) (t3 : f3.type = 3) (hci : Try.prog.cellsOf 3 = 1)
    {n : Nat} {cs : List Value} {x : DataW H × List MemPlace} (h : DataW.trod enc Try.prog W base (fun _ => true) hd n t cs = some x) : ∃ q : P.Q, cs = qC q := by
  obtain ⟨y0, y1, y2, y3, k, -, hl, h0, h1, h2, h3⟩ := trod_struct4 ht h
  rw [hc] at hl
  obtain ⟨c0, c1, c2, c3, rfl⟩ := list4 hl
  rw [o0, t0, hci] at h0
  rw [o1, t1, hci] at h1
  rw [o2, t2, hci] at h2
  rw [o3, t3, hci] at h3
  obtain ⟨x0, e0, -, -⟩ := DataW.trod_int Try.underlying3 h0
  obtain ⟨x1, e1, -, -⟩ := DataW.trod_int Try.underlying3 h1
  obtain ⟨x2, e2, -, -⟩ := DataW.trod_int Try.underlying3 h2
  obtain ⟨x3, e3, -, -⟩ := DataW.trod_int Try.underlying3 h3
  simp at e0 e1 e2 e3
  subst e0 e1 e2 e3
  exact ⟨⟨x0, x1, x2, x3⟩, rfl⟩
theorem open_qs {H : Type} {enc : TypeId × Value → H} {W : World} {base : Nat} {hd : Bool} {ts t : TypeId} (hts : Try.prog.underlying ts = some (.slice t)) (hc : Try.prog.cellsOf t = 4)
    (hel : ∀ (n : Nat) (cs : List Value) (x : DataW H × List MemPlace), DataW.trod enc Try.prog W base (fun _ => true) hd n t cs = some x → ∃ q : P.Q, cs = qC q)
    {a : Option Addr} {len cap : Nat} {d : DataW H} {p : List MemPlace} (h : DataW.Trod enc Try.prog W base (fun _ => true) hd ts (.slice a len cap) d p) : ∃ l, RQ W a len l ∧ len ≤ cap := by
  obtain ⟨fuel, hf⟩ := h
  rcases open_slice hts hf with ⟨hcs, _⟩ | ⟨x, l, c, m, n, D, Pl, hcs, _, hl, hm, hmm, _, hx⟩
  · simp [Value.cells] at hcs
    obtain ⟨rfl, rfl, rfl⟩ := hcs
    exact ⟨[], RV.nil _ _ _, Nat.le_refl _⟩
  · simp [Value.cells] at hcs
    obtain ⟨rfl, rfl, rfl⟩ := hcs
    have hm' : m = cap := by simpa using hmm
    have each : ∀ i, i < len → ∃ q : P.Q, ∀ f, f < 4 → W.cell? (x.add (i * 4 + f)) = (qC q)[f]? := by
      intro i hi
      obtain ⟨cs', h1, h2⟩ := hx i (by omega)
      rw [hc] at h1
      obtain ⟨q, rfl⟩ := hel _ _ _ h2
      obtain ⟨_, hlen, hcell⟩ := World.cells?_some h1
      refine ⟨q, fun f hf => ?_⟩
      have e := hcell f (by omega)
      rw [add_add] at e
      exact e
    obtain ⟨q, hq⟩ := choose_lt each
    refine ⟨(List.range len).map q, ⟨by rw [qCs_length]; simp, by omega, fun i hi => ⟨x, rfl, ?_⟩⟩, hl⟩
    rw [qCs_length] at hi
    simp at hi
    have hd1 : i / 4 < len := by omega
    have hd2 : i % 4 < 4 := by omega
    have e := hq (i / 4) hd1 (i % 4) hd2
    have e2 := qCs_at ((List.range len).map q) (i / 4) (i % 4) (by simp; exact hd1) hd2
    have e3 : i / 4 * 4 + i % 4 = i := by omega
    rw [e3] at e e2
    simp only [List.getElem_map, List.getElem_range] at e2
    rw [e, ← e2, List.getElem?_eq_getElem (by rw [qCs_length]; simp; omega)]
set_option maxRecDepth 100000 in
theorem open_pieces {H : Type} {enc : TypeId × Value → H} {W : World} {base : Nat} {hd : Bool} {a : Option Addr} {len cap : Nat} {d : DataW H} {p : List MemPlace}
    (h : DataW.Trod enc Try.prog W base (fun _ => true) hd 50 (.slice a len cap) d p) : ∃ l, RQ W a len l ∧ len ≤ cap :=
  open_qs Try.underlying50 (by kernel_rfl) (fun n cs x hx => open_q Try.underlying75 (by kernel_rfl) rfl rfl rfl rfl rfl rfl rfl rfl (by kernel_rfl) hx) h
set_option maxRecDepth 100000 in
theorem open_kids {H : Type} {enc : TypeId × Value → H} {W : World} {base : Nat} {hd : Bool} {a : Option Addr} {len cap : Nat} {d : DataW H} {p : List MemPlace}
    (h : DataW.Trod enc Try.prog W base (fun _ => true) hd 78 (.slice a len cap) d p) : ∃ l, RQ W a len l ∧ len ≤ cap :=
  open_qs Try.underlying78 (by kernel_rfl) (fun n cs x hx => open_q Try.underlying121 (by kernel_rfl) rfl rfl rfl rfl rfl rfl rfl rfl (by kernel_rfl) hx) h
end Go.Proofs.Ytpdmhnppibfmkaa
