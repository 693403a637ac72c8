/- A pool in a law: where it was made, what stays. -/
import Derived.Test.YtocepcibcapfbaaGreatJ42
import Derived.Test.YtocepcibcapfbaaGreatJ35
import Derived.Test.YtocepcibcapfbaaGreatJ23
import Derived.Test.YtocepcibcapfbaaGreatJ07
namespace Go.Proofs.YtocepcibcapfbaaGreat
set_option linter.unusedVariables false
set_option linter.unusedSimpArgs false
set_option linter.unusedSectionVars false
open Go.RowKit
variable [Inhabited AvT]
variable {B o c : Nat} {w : World} {p d np N : Nat} {x : P.Po}

/-- The pool x, in a law that began at block B. -/
def PoL (B c : Nat) (w0 w : World) (p d np N : Nat) (x : P.Po) : Prop := Below B w0 w ∧ ∃ o, PoIs B o c w p d np N x
theorem TyX.base {w' : World} (h : TyX (fun k => k = o) B poT w w') (hB : B ≤ w.heap.size) (ho : B ≤ o) : Below B w w' :=
  ⟨h.os, h.tape, h.output, h.size, fun k hk => h.block k (by omega) (by omega) (fun hb => by omega)⟩
theorem PoIs.lo (h : PoIs B o c w p d np N x) : B ≤ o := by
  obtain ⟨⟨mb, n, F, vo, V, hs⟩, -⟩ := h
  exact hs.ot.2
theorem PoIs.avs (h : PoIs B o c w p d np N x) : ∀ k, av k → k < w.heap.size := by
  obtain ⟨⟨mb, n, F, vo, V, hs⟩, -⟩ := h
  exact hs.dev.avs
theorem PoIs.hi (h : PoIs B o c w p d np N x) : B ≤ w.heap.size := by have := h.lo; have := h.lt; omega
/-- The kinds that a step of the pool's turns. -/
def pgT (t : Option TypeId) : Prop := poT t ∨ t = some 3
theorem PoIs.kinds {w' : World} (h : PoIs B o c w p d np N x) (hT : TyX (fun k => k = o) B poT w w') : Ty B pgT w w' := by
  obtain ⟨⟨mb, n, F, vo, V, hs⟩, -⟩ := h
  refine hT.ty pgT (fun _ h => .inl h) (fun k t hk e ht => ?_)
  subst e
  refine ⟨hs.ot.2, ?_⟩
  rcases hs.ot.1 with h1 | h1
  · rw [ht] at h1
    exact .inr (Option.some.inj h1)
  · rw [h1, tagA_cells hs.pool] at ht
    rw [← Option.some.inj ht]
    exact .inl (.inr (.inl rfl))
/-- A step of the pool's in a law: what stays of the bytes, of other blocks. -/
structure PoG (B c : Nat) (w0 w : World) (p d np N : Nat) (x' : P.Po) (w' : World) : Prop where
  pool : PoL B c w0 w' p d np N x'
  size : w.heap.size ≤ w'.heap.size
  bytes : ∀ a n b, RB w a n b → RB w' a n b
  kinds : Ty B pgT w w'
  box : ∀ (b : Nat) (C : Array Value) (t : TypeId), w.heap[b]? = some (.cells C t (0, 0)) → ¬ poT (some t) → t ≠ 3 → t ≠ 69 → w'.heap[b]? = some (.cells C t (0, 0))
theorem PoL.step {w0 w' : World} {x' : P.Po} {c' : Nat} (h : PoIs B o c w p d np N x) (hb : Below B w0 w) (hV : PoV B o c' w p d np N x' w') : PoG B c' w0 w p d np N x' w' := by
  obtain ⟨o', ho', hP', hT⟩ := hV
  exact ⟨⟨hb.trans (hT.base h.hi h.lo), o', hP'⟩, hT.size, fun a n b hr => h.rb hr hT, h.kinds hT, fun b C t hk h1 h2 h3 => TyX.box hT hk (h.ne hk h2 h3) h1⟩
theorem PoL.below {w0 w' : World} (h : PoL B c w0 w p d np N x) (hb : Below w.heap.size w w') : PoG B c w0 w p d np N x w' := by
  obtain ⟨h1, o, h2⟩ := h
  exact ⟨⟨h1.trans (hb.mono h2.hi), o, h2.below hb⟩, hb.size, fun a n b hr => hr.below hb, Ty.of_below hb, fun b C t hk _ _ _ => (hb.block _ (lt_of_block hk)).trans hk⟩
section
variable {w0 : World}
theorem lpin (h : PoL B c w0 w p d np N x) (n : Int) (hn : inI n) (hop : x.d.ops < 999000) (hc : c < 1000000) (E : Int) (bs : List UInt8) (hE : x.pinE N np n = E) (hbs : x.pinB N np n = bs) : Calls Tryz.prog 10 #[.pointer (some ⟨p, 0, none⟩), .int .i64 n] w fun e w' =>
    ∃ a m cp, e = .returned (.tuple #[.slice a m cp, .int .i64 E]) ∧ (E = 0 → RB w' a m bs) ∧ (E ≠ 0 → a = none ∧ m = 0) ∧ PoG B (c + 1) w0 w p d np N (x.pinP N np n) w' := by
  obtain ⟨hb, o, hP⟩ := h
  rw [← hE, ← hbs]
  refine (ppin_any hP n hn hop hc).mono ?_
  rintro e w' ⟨hV, v, rfl, h0, h1⟩
  have hG := PoL.step hP hb hV
  by_cases he : x.pinE N np n = 0
  · obtain ⟨a, cp, e, -⟩ := (h0 he).form
    subst e
    exact ⟨a, _, cp, rfl, fun _ => (h0 he).rb hP.avs, fun h => absurd he h, hG⟩
  · rw [h1 he]
    exact ⟨none, 0, 0, rfl, fun h => absurd h he, fun _ => ⟨rfl, rfl⟩, hG⟩
theorem lput (h : PoL B c w0 w p d np N x) (n : Int) (hn : inI n) (a : Option Addr) (m cp : Nat) (bs : List UInt8) (hr : RB w a m bs) (hm : m ≤ 1048576) (hop : x.d.ops < 1000000) (hc : c < 1000000) (E : Int) (hE : x.putE N np n bs = E) : Calls Tryz.prog 16 #[.pointer (some ⟨p, 0, none⟩), .int .i64 n, .slice a m cp] w fun e w' =>
    e = .returned (.int .i64 E) ∧ PoG B (c + 1) w0 w p d np N (x.putP N np n bs) w' := by
  obtain ⟨hb, o, hP⟩ := h
  rw [← hE]
  refine (pput_any hP n hn a m cp bs hr hm hop hc).mono ?_
  rintro e w' ⟨rfl, hV⟩
  exact ⟨rfl, PoL.step hP hb hV⟩
theorem lunpin (h : PoL B c w0 w p d np N x) (n : Int) (hn : inI n) (E : Int) (hE : x.unE n = E) : Calls Tryz.prog 13 #[.pointer (some ⟨p, 0, none⟩), .int .i64 n] w fun e w' =>
    e = .returned (.int .i64 E) ∧ PoG B c w0 w p d np N (x.unP n) w' := by
  obtain ⟨hb, o, hP⟩ := h
  rw [← hE]
  refine (punpin_any hP n hn).mono ?_
  rintro e w' ⟨rfl, hV⟩
  exact ⟨rfl, PoL.step hP hb hV⟩
theorem lforget (h : PoL B c w0 w p d np N x) (n : Int) (hn : inI n) (b : Bool) (hE : x.forB n = b) : Calls Tryz.prog 18 #[.pointer (some ⟨p, 0, none⟩), .int .i64 n] w fun e w' =>
    e = .returned (.bool b) ∧ PoG B c w0 w p d np N (x.forP n) w' := by
  obtain ⟨hb, o, hP⟩ := h
  rw [← hE]
  refine (pforget_any hP n hn).mono ?_
  rintro e w' ⟨rfl, hV⟩
  exact ⟨rfl, PoL.step hP hb hV⟩
theorem lflush (h : PoL B c w0 w p d np N x) (hop : x.d.ops < 990000) (E : Int) (hE : P.flushE (x.dirt np) x = E) : Calls Tryz.prog 20 #[.pointer (some ⟨p, 0, none⟩)] w fun e w' =>
    e = .returned (.int .i64 E) ∧ PoG B c w0 w p d np N (P.flushP (x.dirt np) x) w' := by
  obtain ⟨hb, o, hP⟩ := h
  rw [← hE]
  refine (pflush_any hP hop).mono ?_
  rintro e w' ⟨rfl, hV⟩
  exact ⟨rfl, PoL.step hP hb hV⟩
theorem levict (h : PoL B c w0 w p d np N x) (n : Int) (hn : n ≤ 1000000000) (hop : x.d.ops < 990000) (E : Int) (hE : P.evE n.toNat x = E) : Calls Tryz.prog 22 #[.pointer (some ⟨p, 0, none⟩), .int .i64 n] w fun e w' =>
    e = .returned (.int .i64 E) ∧ PoG B c w0 w p d np N (P.evP n.toNat x) w' := by
  obtain ⟨hb, o, hP⟩ := h
  rw [← hE]
  refine (pevict_any hP n hn hop).mono ?_
  rintro e w' ⟨rfl, hV⟩
  exact ⟨rfl, PoL.step hP hb hV⟩
/-- A row of numbers, told. -/
theorem rs_form {l : List Nat} {w : World} {e : Ending} {w' : World} (h : RsE l w e w') : ∃ a cp, e = .returned (.slice a l.length cp) ∧ RI w' a l.length (l.map Int.ofNat) ∧ (∀ q, a = some q → w.heap.size ≤ q.block) ∧ Below w.heap.size w w' := by
  obtain ⟨v, rfl, ho, hb⟩ := h
  obtain ⟨a, cp, rfl, hr, -, ha, -⟩ := ho.form
  exact ⟨a, cp, rfl, hr, fun q hq => (ha q hq).1, hb⟩
theorem lresident (h : PoL B c w0 w p d np N x) : Calls Tryz.prog 28 #[.pointer (some ⟨p, 0, none⟩)] w fun e w' =>
    ∃ a cp, e = .returned (.slice a (x.res np).length cp) ∧ RI w' a (x.res np).length ((x.res np).map Int.ofNat) ∧ (∀ q, a = some q → w.heap.size ≤ q.block) ∧ Below w.heap.size w w' := by
  obtain ⟨hb, o, hP⟩ := h
  exact (president_any hP).mono (fun e w' h => rs_form h)
theorem ldirty (h : PoL B c w0 w p d np N x) : Calls Tryz.prog 30 #[.pointer (some ⟨p, 0, none⟩)] w fun e w' =>
    ∃ a cp, e = .returned (.slice a (x.dirt np).length cp) ∧ RI w' a (x.dirt np).length ((x.dirt np).map Int.ofNat) ∧ (∀ q, a = some q → w.heap.size ≤ q.block) ∧ Below w.heap.size w w' := by
  obtain ⟨hb, o, hP⟩ := h
  exact (pdirty_any hP).mono (fun e w' h => rs_form h)
theorem lpinned (h : PoL B c w0 w p d np N x) : Calls Tryz.prog 32 #[.pointer (some ⟨p, 0, none⟩)] w fun e w' => e = .returned (.int .i64 (x.pinned : Int)) ∧ Below w.heap.size w w' := by
  obtain ⟨hb, o, hP⟩ := h
  exact ppinned_any hP
/-- The device's own Read, of a page that there is, on a device that does not fail. -/
theorem lread (h : PoL B c w0 w p d np N x) (hw : x.d.well) (k : Nat) (hk : k < np) (hop : x.d.ops < 1000000) : Calls Tryz.prog 37 #[.pointer (some ⟨d, 0, none⟩), .int .i64 (k : Int)] w fun e w' =>
    ∃ a m cp, e = .returned (.tuple #[.slice a m cp, .int .i64 0]) ∧ RB w' a m (P.pgD x.d.img k) ∧ PoG B c w0 w p d np N ⟨x.d.rdD, x.l⟩ w' := by
  obtain ⟨hb, o, hP⟩ := h
  have h0 := (P.Dv.well_rd hw).1
  refine (pread_any hP k hk hop).mono ?_
  rintro e w' ⟨a, m, cp, rfl, h1, h2, h3⟩
  rw [h0]
  exact ⟨a, m, cp, rfl, h3 h0, ⟨⟨hb.trans (h2.base hP.hi), o, h1⟩, h2.size, fun a n b hr => hr.ty h2 (by unfold devT; decide), h2.mono (Nat.le_refl _) (fun _ h => .inl (.inl h)), fun b C t hk h1 _ _ => h2.cells hk (.inr (fun e => h1 (.inl e)))⟩⟩
end
end Go.Proofs.YtocepcibcapfbaaGreat
