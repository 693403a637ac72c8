/- Maps from ints to pointers, as functions. What a call turned, but for one block. -/
import Derived.Test.YtocepcibcapfbaaGreatJ20
import Derived.Maps.OwnSet
import Derived.Maps.Views
namespace Go.Proofs.YtocepcibcapfbaaGreat
set_option linter.unusedVariables false
set_option linter.unusedSimpArgs false
set_option linter.unusedSectionVars false
open Go.RowKit Go.Maps
variable [Inhabited AvT]

def hvI : Value → Option (DataW Value × List MemPlace) := fun v => some (.held v, [])
def klI (k : Int) : Lit := .int .i64 k
def inI (k : Int) : Prop := -9223372036854775808 ≤ k ∧ k ≤ 9223372036854775807
def updI {α : Type} (V : Int → Option α) (k : Int) (x : Option α) : Int → Option α := fun j => if j = k then x else V j
def SaysI (D : DataW Value) (k : Int) : Option Value → Prop
  | none => has D (klI k) = false ∧ ∀ z, D.atKey (klI k) z = z
  | some v => has D (klI k) = true ∧ ∀ z, D.atKey (klI k) z = .held v
/-- Block b is a map, of at most n entries, that has V. -/
def Mi (w : World) (b n : Nat) (V : Int → Option Value) : Prop := ∃ D : DataW Value, w.ownsMap Tryz.prog 3 hvI b n D ∧ ∀ k, inI k → SaysI D k (V k)
def zptr : Value := .pointer none
theorem keyedI : Keyed Tryz.prog 3 := int_keyed Tryz.underlying3
theorem wfI (k : Int) (h : inI k) : (Lit.int .i64 k).wf = true := by
  have h1 : IntKind.i64.min = -9223372036854775808 := by decide
  have h2 : IntKind.i64.max = 9223372036854775807 := by decide
  obtain ⟨a, b⟩ := h
  simp [Lit.wf, h1, h2]
  omega
theorem keyI (k : Int) (h : inI k) : keyOf Tryz.prog 3 (.int .i64 k) = some (klI k) := keyOf_int_mk Tryz.underlying3 (wfI k h)
theorem zeroP (w : World) : (zeroValue 74).run Tryz.prog w = .ok zptr w := Tryz.zeroValue74 w
theorem Mi.made (w : World) : Mi (w.alloc (.map #[] 0)) w.heap.size 0 (fun _ => none) := ⟨_, World.ownsMap_made w _ _ _, fun k hk => ⟨rfl, fun z => rfl⟩⟩
theorem Mi.lt {w : World} {b n : Nat} {V : Int → Option Value} (h : Mi w b n V) : b < w.heap.size := by obtain ⟨D, h, -⟩ := h; exact h.lt
theorem Mi.kept {w w' : World} {b n : Nat} {V : Int → Option Value} (h : Mi w b n V) (hb : w'.heap[b]? = w.heap[b]?) : Mi w' b n V := by
  obtain ⟨D, ⟨es, clock, hm, Ft, hs, hD⟩, h2⟩ := h
  exact ⟨D, ⟨es, clock, hb.trans hm, Ft, hs, hD⟩, h2⟩
theorem Mi.obj {w : World} {b n : Nat} {V : Int → Option Value} (h : Mi w b n V) : ∃ es clock, w.heap[b]? = some (.map es clock) := by obtain ⟨D, ⟨es, clock, hb, -⟩, -⟩ := h; exact ⟨es, clock, hb⟩
theorem Mi.tag {w : World} {b n : Nat} {V : Int → Option Value} (h : Mi w b n V) : tagA w b = some none := by obtain ⟨es, c, h⟩ := h.obj; unfold tagA; rw [h]; rfl
theorem Mi.look {w : World} {b n : Nat} {V : Int → Option Value} (h : Mi w b n V) (k : Int) (hk : inI k) :
    (Instr.lookup 67 (.map (some b)) (.int .i64 k) false).run Tryz.prog w = .ok ((V k).getD zptr) w := by
  obtain ⟨D, h, hs⟩ := h
  obtain ⟨v, ps, hrun, hv'⟩ := h.lookup keyedI Tryz.underlying67 (zeroP w) (zd := .held zptr) (zp := []) rfl (keyI k hk)
  have hsk := hs k hk
  rw [hrun]
  rcases hV : V k with _ | x
  all_goals
    rw [hV] at hsk
    obtain ⟨h1, h2⟩ := hsk
    rw [h2] at hv'
    simp only [hvI, Option.some.injEq, Prod.mk.injEq, DataW.held.injEq] at hv'
    rw [hv'.1]
    rfl
theorem klI_ne {j k : Int} (h : j ≠ k) : klI j ≠ klI k := by
  unfold klI
  intro e
  injection e with e1 e2
  exact h e2
theorem Mi.store {w : World} {b n : Nat} {V : Int → Option Value} (h : Mi w b n V) (k : Int) (hk : inI k) (hn : n < maxLen) (v : Value) :
    ∃ w', (Instr.mapUpdate 67 (.map (some b)) (.int .i64 k) v).run Tryz.prog w = .ok () w' ∧ Mi w' b (n + 1) (updI V k (some v)) ∧ w.grownBy w' (some b) := by
  obtain ⟨D, h, hs⟩ := h
  obtain ⟨w', h1, h2, h3⟩ := h.update keyedI Tryz.underlying67 hn (keyI k hk) (val := v) (d := .held v) (ps := []) rfl
  refine ⟨w', h1, ⟨_, h2, fun j hj => ?_⟩, h3⟩
  unfold updI
  by_cases he : j = k
  · subst he
    rw [if_pos rfl]
    exact ⟨has_put_same h.isMap (show WideAt.IsKeyLit (klI j) from trivial) _, fun z => atKey_put_same h.isMap (show WideAt.IsKeyLit (klI j) from trivial) _ _⟩
  · rw [if_neg he]
    have hj2 := hs j hj
    rcases hV : V j with _ | x
    all_goals
      rw [hV] at hj2
      exact ⟨by rw [has_put_other (klI_ne he)]; exact hj2.1, fun z => by rw [atKey_put_other (klI_ne he)]; exact hj2.2 z⟩
theorem Mi.drop {w : World} {b n : Nat} {V : Int → Option Value} (h : Mi w b n V) (k : Int) (hk : inI k) (ty : TypeId) :
    ∃ w', (Builtin.delete_ #[67, 3] ty #[.map (some b), .int .i64 k]).run Tryz.prog w = .ok (.tuple #[]) w' ∧ Mi w' b n (updI V k none) ∧ w.grownBy w' (some b) := by
  obtain ⟨D, h, hs⟩ := h
  obtain ⟨w', h1, h2, h3⟩ := h.drop keyedI Tryz.underlying67 (keyI k hk) ty
  refine ⟨w', h1, ⟨_, h2, fun j hj => ?_⟩, h3.grown⟩
  unfold updI
  by_cases he : j = k
  · subst he
    rw [if_pos rfl]
    exact ⟨has_del_same, fun z => atKey_del_same z⟩
  · rw [if_neg he]
    have hj2 := hs j hj
    rcases hV : V j with _ | x
    all_goals
      rw [hV] at hj2
      exact ⟨by rw [has_del_other (klI_ne he)]; exact hj2.1, fun z => by rw [atKey_del_other (klI_ne he)]; exact hj2.2 z⟩
/-- As Ty, but the blocks X may be others too. -/
structure TyX (X : Nat → Prop) (B : Nat) (T : Option TypeId → Prop) (w w' : World) : Prop where
  os : w'.os = w.os
  tape : w'.tape = w.tape
  output : w'.output = w.output
  size : w.heap.size ≤ w'.heap.size
  tag : ∀ k, k < w.heap.size → tagA w' k = tagA w k
  block : ∀ k, k < w.heap.size → ¬ X k → (B ≤ k → ∀ t, tagA w k = some t → ¬ T t) → w'.heap[k]? = w.heap[k]?
theorem Ty.x {X : Nat → Prop} {B : Nat} {T : Option TypeId → Prop} {w w' : World} (h : Ty B T w w') : TyX X B T w w' := ⟨h.os, h.tape, h.output, h.size, h.tag, fun k hk _ hs => h.block k hk hs⟩
theorem TyX.trans {X Y : Nat → Prop} {B : Nat} {T : Option TypeId → Prop} {a b c : World} (h : TyX X B T a b) (k : TyX Y B T b c) (hY : ∀ i, i < a.heap.size → Y i → X i) : TyX X B T a c :=
  ⟨k.os.trans h.os, k.tape.trans h.tape, k.output.trans h.output, Nat.le_trans h.size k.size, fun i hi => (k.tag i (Nat.lt_of_lt_of_le hi h.size)).trans (h.tag i hi),
    fun i hi hx hs => (k.block i (Nat.lt_of_lt_of_le hi h.size) (fun hy => hx (hY i hi hy)) (fun hb t ht => hs hb t (by rw [← h.tag i hi]; exact ht))).trans (h.block i hi hx hs)⟩
theorem TyX.cells {X : Nat → Prop} {B : Nat} {T : Option TypeId → Prop} {w w' : World} (h : TyX X B T w w') {k : Nat} {c : Array Value} {t : TypeId} {fr : Nat × Nat} (hk : w.heap[k]? = some (.cells c t fr)) (hx : ¬ X k) (ht : k < B ∨ ¬ T (some t)) : w'.heap[k]? = some (.cells c t fr) := by
  rw [h.block k (lt_of_block hk) hx (fun hb t' e => by
    rw [tagA_cells hk] at e
    cases e
    rcases ht with h | h
    · omega
    · exact h)]
  exact hk
/-- Nothing of a kind that is not X's is turned. -/
theorem TyX.ty {X : Nat → Prop} {B : Nat} {T : Option TypeId → Prop} {w w' : World} (h : TyX X B T w w') (U : Option TypeId → Prop) (hT : ∀ t, T t → U t) (hX : ∀ k t, k < w.heap.size → X k → tagA w k = some t → B ≤ k ∧ U t) : Ty B U w w' :=
  ⟨h.os, h.tape, h.output, h.size, h.tag, fun k hk hs => by
    by_cases hx : X k
    · rcases ht : tagA w k with _ | t
      · unfold tagA at ht
        rcases hb : w.heap[k]? with _ | o
        · rw [Array.getElem?_eq_none_iff] at hb; omega
        · rw [hb] at ht; cases ht
      · obtain ⟨h1, h2⟩ := hX k t hk hx ht
        exact absurd h2 (hs h1 t ht)
    · exact h.block k hk hx (fun hb t ht hh => hs hb t ht (hT t hh))⟩
theorem RB.x {X : Nat → Prop} {C : Nat} {T : Option TypeId → Prop} {w w' : World} {a : Option Addr} {n : Nat} {b : List UInt8} (h : RB w a n b) (hw : TyX X C T w w') (hT : ¬ T (some 5)) (hX : ∀ k, X k → tagA w k ≠ some (some 5)) : RB w' a n b := by
  refine ⟨h.1.of_cells fun p e i hi => ?_, fun h0 p e => ⟨by rw [hw.tag _ (tagA_lt (h.2 h0 p e).1)]; exact (h.2 h0 p e).1, (h.2 h0 p e).2⟩⟩
  have h0 : 0 < n := by have := h.1.1; omega
  have ht := (h.2 h0 p e).1
  refine World.cell?_of_block (w := w) ?_
  rw [add_block]
  exact hw.block _ (tagA_lt ht) (fun hx => hX _ hx ht) (fun hb t e => by rw [ht] at e; cases e; exact hT)
end Go.Proofs.YtocepcibcapfbaaGreat
