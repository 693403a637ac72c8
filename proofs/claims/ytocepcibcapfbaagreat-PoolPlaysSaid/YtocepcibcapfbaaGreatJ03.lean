/- Arguments that came in: a slice of bytes as a list. -/
import Derived.Test.YtocepcibcapfbaaGreatJ02
import Derived.Deep.Slices
import Derived.Test.YtocepcibcapfbaaGreatRows
import Derived.Test.YtocepcibcapfbaaGreatJ01
import Derived.ProofKit
import Derived.OpenShut
import Derived.ShutString
import Derived.ChangeOld
import Derived.Below
import Derived.Lib.SmallJoins
namespace Go.Proofs.YtocepcibcapfbaaGreat
set_option linter.unusedVariables false
set_option linter.unusedSimpArgs false
open Go.ChangeShapes Go.WideShapes Go.ChangeAt Go.RowKit

theorem own : ownKnob Tryz.prog.godebug = none := by kernel_rfl
theorem laidOut : laidOutB Tryz.prog = true := by kernel_rfl

theorem u8_of_wf {n : Int} (h : (Lit.int .u8 n).wf = true) : ((UInt8.ofNat n.toNat).toNat : Int) = n := by
  have hb := bounds_u8 h
  simp
  omega

theorem open_bytes {H : Type} {enc : TypeId × Value → H} {W : World} {base : Nat} {hd : Bool} {a : Option Addr} {len cap : Nat} {d : DataW H} {p : List MemPlace}
    (h : DataW.Trod enc Tryz.prog W base (fun _ => true) hd 38 (.slice a len cap) d p) : ∃ l, Rd W a len l ∧ len ≤ cap := by
  obtain ⟨fuel, hf⟩ := h
  rcases open_ints Tryz.underlying38 Tryz.underlying5 (by kernel_rfl) hf with ⟨hcs, _⟩ | ⟨x, l, c, zs, hcs, _, hl, hm, hz, _, hcell, hwz⟩
  · simp [Value.cells] at hcs
    obtain ⟨rfl, rfl, rfl⟩ := hcs
    exact ⟨[], Rd.nil _ _, Nat.le_refl _⟩
  · simp [Value.cells] at hcs
    obtain ⟨rfl, rfl, rfl⟩ := hcs
    have hz' : zs.length = cap := by simpa using hz
    refine ⟨(zs.take len).map fun n => UInt8.ofNat n.toNat, ⟨by simp; omega, by omega, fun i hi => ⟨x, rfl, ?_⟩⟩, hl⟩
    simp only [List.length_map, List.length_take] at hi
    have hc := hcell i (by omega)
    rw [hc]
    have hw := hwz (zs.getD i 0) (by
      rw [List.getD_eq_getElem?_getD, List.getElem?_eq_getElem (by omega)]
      exact List.getElem_mem _)
    unfold bv
    have e : ((List.map (fun n => UInt8.ofNat n.toNat) (List.take len zs))[i]'(by simp; omega)) = UInt8.ofNat (zs.getD i 0).toNat := by
      simp [List.getD_eq_getElem?_getD, List.getElem?_eq_getElem (show i < zs.length by omega)]
    rw [e, u8_of_wf hw]
end Go.Proofs.YtocepcibcapfbaaGreat
/- Arguments that came in: a page. -/
namespace Go.Proofs.YtocepcibcapfbaaGreat
set_option linter.unusedVariables false
set_option linter.unusedSimpArgs false
open Go.ChangeShapes Go.WideShapes Go.ChangeAt Go.RowKit

theorem open_bytes_cs {H : Type} {enc : TypeId × Value → H} {W : World} {base : Nat} {hd : Bool} {fuel : Nat} {cs : List Value} {x : DataW H × List MemPlace}
    (hf : DataW.trod enc Tryz.prog W base (fun _ => true) hd fuel 38 cs = some x) : ∃ a len cap l, cs = [.slice a len cap] ∧ Rd W a len l ∧ len ≤ cap := by
  rcases open_ints Tryz.underlying38 Tryz.underlying5 (by kernel_rfl) hf with ⟨hcs, _⟩ | ⟨y, l, c, zs, hcs, _, hl, hm, hz, _, hcell, hwz⟩
  · exact ⟨none, 0, 0, [], hcs, Rd.nil _ _, Nat.le_refl _⟩
  · have h : DataW.Trod enc Tryz.prog W base (fun _ => true) hd 38 (.slice (some y) l c) x.1 x.2 := ⟨fuel, by rw [show (Value.slice (some y) l c).cells.toList = cs by rw [hcs]; rfl]; exact hf⟩
    obtain ⟨b, hr, hc⟩ := open_bytes h
    exact ⟨_, _, _, b, hcs, hr, hc⟩

end Go.Proofs.YtocepcibcapfbaaGreat
/- Arguments that came in: a slice of law 9's deeds. -/
namespace Go.Proofs.YtocepcibcapfbaaGreat
set_option linter.unusedVariables false
set_option linter.unusedSimpArgs false
open Go.Deep Go.ChangeShapes Go.WideShapes Go.ChangeAt Go.RowKit Go.Joins

/-- A deed: its five cells. -/
structure Deed where
  d : Int
  n : Int
  p : Int
  f : UInt8
  b : Value
instance : Inhabited Deed := ⟨⟨0, 0, 0, 0, .slice none 0 0⟩⟩
def deC (q : Deed) : List Value := [.int .i64 q.d, .int .i64 q.n, .int .i64 q.p, .int .u8 (q.f.toNat : Int), q.b]
def deCs (l : List Deed) : List Value := (l.map deC).flatten
theorem deCs_length (l : List Deed) : (deCs l).length = l.length * 5 := by
  induction l with
  | nil => rfl
  | cons q l ih =>
    show (deC q ++ deCs l).length = _
    rw [List.length_append, ih]
    show 5 + _ = (l.length + 1) * 5
    omega
theorem deCs_at (l : List Deed) (i f : Nat) (hi : i < l.length) (hf : f < 5) : (deCs l)[i * 5 + f]? = (deC l[i])[f]? := by
  induction l generalizing i with
  | nil => simp at hi
  | cons q l ih =>
    show (deC q ++ deCs l)[i * 5 + f]? = _
    have h5 : (deC q).length = 5 := rfl
    cases i with
    | zero =>
      rw [List.getElem?_append_left (by omega)]
      simp
    | succ i =>
      rw [List.getElem?_append_right (by omega), h5, show (i + 1) * 5 + f - 5 = i * 5 + f by omega, ih i (by simpa using hi)]
      rfl
/-- What a deed bears: numbers that are ints, bytes that may be read. -/
structure DeOk (w : World) (q : Deed) : Prop where
  d : -9223372036854775808 ≤ q.d ∧ q.d ≤ 9223372036854775807
  n : -9223372036854775808 ≤ q.n ∧ q.n ≤ 9223372036854775807
  p : -9223372036854775808 ≤ q.p ∧ q.p ≤ 9223372036854775807
  b : ∃ a m c bs, q.b = .slice a m c ∧ Rd w a m bs ∧ m ≤ c
def RD (w : World) (a : Option Addr) (n : Nat) (l : List Deed) : Prop := RV w a n 5 (deCs l) ∧ ∀ q ∈ l, DeOk w q
theorem RD.len {w : World} {a : Option Addr} {n : Nat} {l : List Deed} (h : RD w a n l) : l.length = n := by have := h.1.1; rw [deCs_length] at this; omega
theorem RD.below {w w' : World} {a : Option Addr} {n : Nat} {l : List Deed} (h : RD w a n l) (hb : Below w.heap.size w w') : RD w' a n l :=
  ⟨RV.below h.1 hb, fun q hq => by
    obtain ⟨h1, h2, h3, a, m, c, bs, h4, h5, h6⟩ := h.2 q hq
    exact ⟨h1, h2, h3, a, m, c, bs, h4, h5.below hb, h6⟩⟩
theorem add_offd (p : Addr) (m f : Nat) (hf : 0 < f) : p.add (m + f) = ⟨(p.add m).block, (p.add m).off + f, none⟩ := by
  unfold Addr.add
  rw [if_neg (by omega)]
  split
  · rename_i h; subst h; simp
  · simp; omega
theorem RD.at {w : World} {a : Option Addr} {n : Nat} {l : List Deed} (h : RD w a n l) (i : Nat) (hi : i < l.length) :
    ∃ p, a = some p ∧ w.cell? (p.add (i * 5)) = some (.int .i64 l[i].d) ∧ w.cell? { block := (p.add (i * 5)).block, off := (p.add (i * 5)).off + 1 } = some (.int .i64 l[i].n) ∧ w.cell? { block := (p.add (i * 5)).block, off := (p.add (i * 5)).off + 2 } = some (.int .i64 l[i].p) ∧ w.cell? { block := (p.add (i * 5)).block, off := (p.add (i * 5)).off + 3 } = some (.int .u8 (l[i].f.toNat : Int)) ∧
      w.cell? { block := (p.add (i * 5)).block, off := (p.add (i * 5)).off + 4 } = some l[i].b := by
  have hl := deCs_length l
  obtain ⟨p, rfl, hp⟩ := h.1.ptr (by omega)
  have hc : ∀ f, f < 5 → w.cell? (p.add (i * 5 + f)) = (deC l[i])[f]? := fun f hf => by
    rw [hp (i * 5 + f) (by omega), ← deCs_at l i f hi hf, List.getElem?_eq_getElem]
  exact ⟨p, rfl, hc 0 (by omega), by rw [← add_offd _ _ 1 (by omega)]; exact hc 1 (by omega), by rw [← add_offd _ _ 2 (by omega)]; exact hc 2 (by omega), by rw [← add_offd _ _ 3 (by omega)]; exact hc 3 (by omega), by rw [← add_offd _ _ 4 (by omega)]; exact hc 4 (by omega)⟩
theorem list5 {α : Type} {cs : List α} (h : cs.length = 5) : ∃ c0 c1 c2 c3 c4, cs = [c0, c1, c2, c3, c4] := by
  match cs, h with
  | [c0, c1, c2, c3, c4], _ => exact ⟨c0, c1, c2, c3, c4, rfl⟩
theorem open_deed {H : Type} {enc : TypeId × Value → H} {W : World} {base : Nat} {hd : Bool} {t : TypeId} {f0 f1 f2 f3 f4 : Field} (ht : Tryz.prog.underlying t = some (.struct #[f0, f1, f2, f3, f4])) (hc : Tryz.prog.cellsOf t = 5)
    (o0 : f0.offset = 0) (o1 : f1.offset = 1) (o2 : f2.offset = 2) (o3 : f3.offset = 3) (o4 : f4.offset = 4) (t0 : f0.type = 3) (t1 : f1.type = 3) (t2 : f2.type = 3) (t3 : f3.type = 5) (t4 : f4.type = 38) (hci : Tryz.prog.cellsOf 3 = 1) (hcu : Tryz.prog.cellsOf 5 = 1) (hcb : Tryz.prog.cellsOf 38 = 1)
    {n : Nat} {cs : List Value} {x : DataW H × List MemPlace} (h : DataW.trod enc Tryz.prog W base (fun _ => true) hd n t cs = some x) : ∃ q : Deed, cs = deC q ∧ DeOk W q := by
  obtain ⟨xs, n, _, rfl, hl, hlen, hf⟩ := DataW.trod_struct ht h
  rw [hc] at hl
  obtain ⟨c0, c1, c2, c3, c4, rfl⟩ := list5 hl
  match xs, hlen with
  | [y0, y1, y2, y3, y4], _ =>
    have h0 := by simpa using hf 0 f0 rfl
    have h1 := by simpa using hf 1 f1 rfl
    have h2 := by simpa using hf 2 f2 rfl
    have h3 := by simpa using hf 3 f3 rfl
    have h4 := by simpa using hf 4 f4 rfl
    rw [o0, t0, hci] at h0
    rw [o1, t1, hci] at h1
    rw [o2, t2, hci] at h2
    rw [o3, t3, hcu] at h3
    rw [o4, t4, hcb] at h4
    obtain ⟨x0, e0, -, w0⟩ := DataW.trod_int Tryz.underlying3 h0
    obtain ⟨x1, e1, -, w1⟩ := DataW.trod_int Tryz.underlying3 h1
    obtain ⟨x2, e2, -, w2⟩ := DataW.trod_int Tryz.underlying3 h2
    obtain ⟨x3, e3, -, w3⟩ := DataW.trod_int Tryz.underlying5 h3
    obtain ⟨a, m, c, bs, e4, hr, hm⟩ := open_bytes_cs h4
    simp at e0 e1 e2 e3 e4
    subst e0 e1 e2 e3 e4
    refine ⟨⟨x0, x1, x2, UInt8.ofNat x3.toNat, .slice a m c⟩, ?_, bounds_i64 w0, bounds_i64 w1, bounds_i64 w2, a, m, c, bs, rfl, hr, hm⟩
    unfold deC
    simp only
    rw [u8_of_wf w3]
theorem open_ds {H : Type} {enc : TypeId × Value → H} {W : World} {base : Nat} {hd : Bool} {ts t : TypeId} (hts : Tryz.prog.underlying ts = some (.slice t)) (hc : Tryz.prog.cellsOf t = 5)
    (hel : ∀ (n : Nat) (cs : List Value) (x : DataW H × List MemPlace), DataW.trod enc Tryz.prog W base (fun _ => true) hd n t cs = some x → ∃ q : Deed, cs = deC q ∧ DeOk W q)
    {a : Option Addr} {len cap : Nat} {d : DataW H} {p : List MemPlace} (h : DataW.Trod enc Tryz.prog W base (fun _ => true) hd ts (.slice a len cap) d p) : ∃ l, RD W a len l ∧ len ≤ cap := by
  obtain ⟨fuel, hf⟩ := h
  rcases open_slice hts hf with ⟨hcs, _⟩ | ⟨x, l, c, m, n, D, Pl, hcs, _, hl, hm, hmm, _, hx⟩
  · simp [Value.cells] at hcs
    obtain ⟨rfl, rfl, rfl⟩ := hcs
    exact ⟨[], ⟨RV.nil _ _ _, fun q hq => by simp at hq⟩, Nat.le_refl _⟩
  · simp [Value.cells] at hcs
    obtain ⟨rfl, rfl, rfl⟩ := hcs
    have hm' : m = cap := by simpa using hmm
    have each : ∀ i, i < len → ∃ q : Deed, DeOk W q ∧ ∀ f, f < 5 → W.cell? (x.add (i * 5 + f)) = (deC q)[f]? := by
      intro i hi
      obtain ⟨cs', h1, h2⟩ := hx i (by omega)
      rw [hc] at h1
      obtain ⟨q, rfl, hq⟩ := hel _ _ _ h2
      obtain ⟨_, hlen, hcell⟩ := World.cells?_some h1
      refine ⟨q, hq, fun f hf => ?_⟩
      have e := hcell f (by omega)
      rw [add_add] at e
      exact e
    obtain ⟨q, hq⟩ := choose_lt each
    refine ⟨(List.range len).map q, ⟨⟨by rw [deCs_length]; simp, by omega, fun i hi => ⟨x, rfl, ?_⟩⟩, fun y hy => ?_⟩, hl⟩
    · rw [deCs_length] at hi
      simp at hi
      have hd1 : i / 5 < len := by omega
      have hd2 : i % 5 < 5 := by omega
      have e := (hq (i / 5) hd1).2 (i % 5) hd2
      have e2 := deCs_at ((List.range len).map q) (i / 5) (i % 5) (by simp; exact hd1) hd2
      have e3 : i / 5 * 5 + i % 5 = i := by omega
      rw [e3] at e e2
      simp only [List.getElem_map, List.getElem_range] at e2
      rw [e, ← e2, List.getElem?_eq_getElem (by rw [deCs_length]; simp; omega)]
    · obtain ⟨j, hj, rfl⟩ := List.mem_map.1 hy
      exact (hq j (List.mem_range.1 hj)).1
set_option maxRecDepth 100000 in
theorem open_deeds9 {H : Type} {enc : TypeId × Value → H} {W : World} {base : Nat} {hd : Bool} {a : Option Addr} {len cap : Nat} {d : DataW H} {p : List MemPlace}
    (h : DataW.Trod enc Tryz.prog W base (fun _ => true) hd 22 (.slice a len cap) d p) : ∃ l, RD W a len l ∧ len ≤ cap :=
  open_ds Tryz.underlying22 (by kernel_rfl) (fun n cs x hx => open_deed Tryz.underlying40 (by kernel_rfl) rfl rfl rfl rfl rfl rfl rfl rfl rfl rfl (by kernel_rfl) (by kernel_rfl) (by kernel_rfl) hx) h
end Go.Proofs.YtocepcibcapfbaaGreat
