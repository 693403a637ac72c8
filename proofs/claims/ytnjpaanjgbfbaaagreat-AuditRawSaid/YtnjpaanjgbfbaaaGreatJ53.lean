/- Arguments that came in: a slice of hits. -/
import Derived.Test.YtnjpaanjgbfbaaaGreatJ12
import Derived.Test.YtnjpaanjgbfbaaaGreatJ45
namespace Go.Proofs.YtnjpaanjgbfbaaaGreat
set_option linter.unusedVariables false
set_option linter.unusedSimpArgs false
open Go.Deep Go.ChangeShapes Go.WideShapes Go.ChangeAt Go.RowKit Go.Joins

instance : Inhabited Hit := ⟨⟨0, 0, 0, false⟩⟩
theorem open_hit {H : Type} {enc : TypeId × Value → H} {W : World} {base : Nat} {hd : Bool} {t : TypeId} {f0 f1 f2 f3 : Field} (ht : Tryz.prog.underlying t = some (.struct #[f0, f1, f2, f3])) (hc : Tryz.prog.cellsOf t = 4)
    (o0 : f0.offset = 0) (o1 : f1.offset = 1) (o2 : f2.offset = 2) (o3 : f3.offset = 3) (t0 : f0.type = 3) (t1 : f1.type = 3) (t2 : f2.type = 5) (t3 : f3.type = 4) (hci : Tryz.prog.cellsOf 3 = 1) (hcu : Tryz.prog.cellsOf 5 = 1) (hcb : Tryz.prog.cellsOf 4 = 1)
    {n : Nat} {cs : List Value} {x : DataW H × List MemPlace} (h : DataW.trod enc Tryz.prog W base (fun _ => true) hd n t cs = some x) : ∃ q : Hit, cs = hC q := by
  obtain ⟨y0, y1, y2, y3, k, -, hl, h0, h1, h2, h3⟩ := trod_struct4 ht h
  rw [hc] at hl
  obtain ⟨c0, c1, c2, c3, rfl⟩ := list4 hl
  rw [o0, t0, hci] at h0
  rw [o1, t1, hci] at h1
  rw [o2, t2, hcu] at h2
  rw [o3, t3, hcb] at h3
  obtain ⟨x0, e0, -, -⟩ := DataW.trod_int Tryz.underlying3 h0
  obtain ⟨x1, e1, -, -⟩ := DataW.trod_int Tryz.underlying3 h1
  obtain ⟨x2, e2, -, w2⟩ := DataW.trod_int Tryz.underlying5 h2
  obtain ⟨x3, e3, -⟩ := DataW.trod_bool Tryz.underlying4 h3
  simp at e0 e1 e2 e3
  subst e0 e1 e2 e3
  refine ⟨⟨x0, x1, UInt8.ofNat x2.toNat, x3⟩, ?_⟩
  unfold hC
  simp only
  rw [u8_of_wf w2]
theorem open_hs {H : Type} {enc : TypeId × Value → H} {W : World} {base : Nat} {hd : Bool} {ts t : TypeId} (hts : Tryz.prog.underlying ts = some (.slice t)) (hc : Tryz.prog.cellsOf t = 4)
    (hel : ∀ (n : Nat) (cs : List Value) (x : DataW H × List MemPlace), DataW.trod enc Tryz.prog W base (fun _ => true) hd n t cs = some x → ∃ q : Hit, cs = hC q)
    {a : Option Addr} {len cap : Nat} {d : DataW H} {p : List MemPlace} (h : DataW.Trod enc Tryz.prog W base (fun _ => true) hd ts (.slice a len cap) d p) : ∃ l, RH W a len l ∧ len ≤ cap := by
  obtain ⟨fuel, hf⟩ := h
  rcases open_slice hts hf with ⟨hcs, _⟩ | ⟨x, l, c, m, n, D, Pl, hcs, _, hl, hm, hmm, _, hx⟩
  · simp [Value.cells] at hcs
    obtain ⟨rfl, rfl, rfl⟩ := hcs
    exact ⟨[], RV.nil _ _ _, Nat.le_refl _⟩
  · simp [Value.cells] at hcs
    obtain ⟨rfl, rfl, rfl⟩ := hcs
    have hm' : m = cap := by simpa using hmm
    have each : ∀ i, i < len → ∃ q : Hit, ∀ f, f < 4 → W.cell? (x.add (i * 4 + f)) = (hC q)[f]? := by
      intro i hi
      obtain ⟨cs', h1, h2⟩ := hx i (by omega)
      rw [hc] at h1
      obtain ⟨q, rfl⟩ := hel _ _ _ h2
      obtain ⟨_, hlen, hcell⟩ := World.cells?_some h1
      refine ⟨q, fun f hf => ?_⟩
      have e := hcell f (by omega)
      rw [add_add] at e
      exact e
    obtain ⟨q, hq⟩ := choose_lt each
    refine ⟨(List.range len).map q, ⟨by rw [hCs_length]; simp, by omega, fun i hi => ⟨x, rfl, ?_⟩⟩, hl⟩
    rw [hCs_length] at hi
    simp at hi
    have hd1 : i / 4 < len := by omega
    have hd2 : i % 4 < 4 := by omega
    have e := hq (i / 4) hd1 (i % 4) hd2
    have e2 := hCs_at ((List.range len).map q) (i / 4) (i % 4) (by simp; exact hd1) hd2
    have e3 : i / 4 * 4 + i % 4 = i := by omega
    rw [e3] at e e2
    simp only [List.getElem_map, List.getElem_range] at e2
    rw [e, ← e2, List.getElem?_eq_getElem (by rw [hCs_length]; simp; omega)]
set_option maxRecDepth 100000 in
theorem open_hits {H : Type} {enc : TypeId × Value → H} {W : World} {base : Nat} {hd : Bool} {a : Option Addr} {len cap : Nat} {d : DataW H} {p : List MemPlace}
    (h : DataW.Trod enc Tryz.prog W base (fun _ => true) hd 45 (.slice a len cap) d p) : ∃ l, RH W a len l ∧ len ≤ cap :=
  open_hs Tryz.underlying45 (by kernel_rfl) (fun n cs x hx => open_hit Tryz.underlying79 (by kernel_rfl) rfl rfl rfl rfl rfl rfl rfl rfl (by kernel_rfl) (by kernel_rfl) (by kernel_rfl) hx) h
end Go.Proofs.YtnjpaanjgbfbaaaGreat
