/- Maps from bytes to values, as functions. -/
import Derived.Test.YtleicgigkbfnbaaGr
import Derived.Maps.OwnSet
import Derived.Maps.Views
namespace Go.Proofs.Ytleicgigkbfnbaa
set_option linter.unusedVariables false
set_option linter.unusedSimpArgs false
open Go.RowKit Go.Maps

def hv : Value → Option (DataW Value × List MemPlace) := fun v => some (.held v, [])
def kl (k : Nat) : Lit := .int .u8 k
def upd {α : Type} (V : Nat → Option α) (k : Nat) (x : Option α) : Nat → Option α := fun j => if j = k then x else V j
def Says (D : DataW Value) (k : Nat) : Option Value → Prop
  | none => has D (kl k) = false ∧ ∀ z, D.atKey (kl k) z = z
  | some v => has D (kl k) = true ∧ ∀ z, D.atKey (kl k) z = .held v
/-- Block b is a map, of at most n entries, that has V. -/
def Ms (w : World) (b n : Nat) (V : Nat → Option Value) : Prop := ∃ D : DataW Value, w.ownsMap Try.prog 5 hv b n D ∧ ∀ k, k < 256 → Says D k (V k)
def zval : Value := .agg #[.bool false, .slice none 0 0]
theorem keyed8 : Keyed Try.prog 5 := int_keyed Try.underlying5
theorem wf8 (k : Nat) (h : k < 256) : (Lit.int .u8 (k : Int)).wf = true := by
  have h1 : IntKind.u8.min = 0 := by decide
  have h2 : IntKind.u8.max = 255 := by decide
  simp [Lit.wf, h1, h2]
  omega
theorem key8 (k : Nat) (h : k < 256) : keyOf Try.prog 5 (.int .u8 k) = some (kl k) := keyOf_int_mk Try.underlying5 (wf8 k h)
theorem zeroV (w : World) : (zeroValue 54).run Try.prog w = .ok zval w := Try.zeroValue54 w
theorem Ms.made (w : World) : Ms (w.alloc (.map #[] 0)) w.heap.size 0 (fun _ => none) := ⟨_, World.ownsMap_made w _ _ _, fun k hk => ⟨rfl, fun z => rfl⟩⟩
theorem Ms.lt {w : World} {b n : Nat} {V : Nat → Option Value} (h : Ms w b n V) : b < w.heap.size := by obtain ⟨D, h, -⟩ := h; exact h.lt
theorem Ms.mono {w : World} {b n n' : Nat} {V : Nat → Option Value} (h : Ms w b n V) (hn : n ≤ n') : Ms w b n' V := by obtain ⟨D, h, h2⟩ := h; exact ⟨D, h.mono hn, h2⟩
theorem Ms.kept {w w' : World} {b n : Nat} {V : Nat → Option Value} (h : Ms w b n V) {row : Option Nat} (hg : w.grownBy w' row) (hne : some b ≠ row) : Ms w' b n V := by obtain ⟨D, h, h2⟩ := h; exact ⟨D, h.kept hg hne, h2⟩
theorem Ms.below {w w' : World} {b n : Nat} {V : Nat → Option Value} (h : Ms w b n V) (hb : Below w.heap.size w w') : Ms w' b n V := h.kept (row := none) ⟨hb.os, hb.tape, hb.output, hb.size, fun i hi _ => hb.block i hi⟩ (by simp)
theorem Ms.obj {w : World} {b n : Nat} {V : Nat → Option Value} (h : Ms w b n V) : ∃ es clock, w.heap[b]? = some (.map es clock) := by obtain ⟨D, ⟨es, clock, hb, -⟩, -⟩ := h; exact ⟨es, clock, hb⟩
theorem Ms.look {w : World} {b n : Nat} {V : Nat → Option Value} (h : Ms w b n V) (k : Nat) (hk : k < 256) :
    (Instr.lookup 48 (.map (some b)) (.int .u8 k) true).run Try.prog w = .ok (.tuple #[(V k).getD zval, .bool (V k).isSome]) w := by
  obtain ⟨D, h, hs⟩ := h
  obtain ⟨v, ps, hrun, hv'⟩ := h.look_ok keyed8 Try.underlying48 (zeroV w) (zd := .held zval) (zp := []) rfl (key8 k hk)
  have hsk := hs k hk
  rw [hrun]
  rcases hV : V k with _ | x
  · rw [hV] at hsk
    obtain ⟨h1, h2⟩ := hsk
    rw [h2] at hv'
    simp only [hv, Option.some.injEq, Prod.mk.injEq, DataW.held.injEq] at hv'
    rw [h1, hv'.1]
    rfl
  · rw [hV] at hsk
    obtain ⟨h1, h2⟩ := hsk
    rw [h2] at hv'
    simp only [hv, Option.some.injEq, Prod.mk.injEq, DataW.held.injEq] at hv'
    rw [h1, hv'.1]
    rfl
theorem Ms.look1 {w : World} {b n : Nat} {V : Nat → Option Value} (h : Ms w b n V) (k : Nat) (hk : k < 256) :
    (Instr.lookup 48 (.map (some b)) (.int .u8 k) false).run Try.prog w = .ok ((V k).getD zval) w := by
  obtain ⟨D, h, hs⟩ := h
  obtain ⟨v, ps, hrun, hv'⟩ := h.lookup keyed8 Try.underlying48 (zeroV w) (zd := .held zval) (zp := []) rfl (key8 k hk)
  have hsk := hs k hk
  rw [hrun]
  rcases hV : V k with _ | x
  · rw [hV] at hsk
    obtain ⟨h1, h2⟩ := hsk
    rw [h2] at hv'
    simp only [hv, Option.some.injEq, Prod.mk.injEq, DataW.held.injEq] at hv'
    rw [hv'.1]
    rfl
  · rw [hV] at hsk
    obtain ⟨h1, h2⟩ := hsk
    rw [h2] at hv'
    simp only [hv, Option.some.injEq, Prod.mk.injEq, DataW.held.injEq] at hv'
    rw [hv'.1]
    rfl
theorem kl_ne {j k : Nat} (h : j ≠ k) : kl j ≠ kl k := by
  unfold kl
  intro e
  injection e with e1 e2
  exact h (by omega)
theorem Ms.store {w : World} {b n : Nat} {V : Nat → Option Value} (h : Ms w b n V) (k : Nat) (hk : k < 256) (hn : n < maxLen) (v : Value) :
    ∃ w', (Instr.mapUpdate 48 (.map (some b)) (.int .u8 k) v).run Try.prog w = .ok () w' ∧ Ms w' b (n + 1) (upd V k (some v)) ∧ w.grownBy w' (some b) := by
  obtain ⟨D, h, hs⟩ := h
  obtain ⟨w', h1, h2, h3⟩ := h.update keyed8 Try.underlying48 hn (key8 k hk) (val := v) (d := .held v) (ps := []) rfl
  refine ⟨w', h1, ⟨_, h2, fun j hj => ?_⟩, h3⟩
  unfold upd
  by_cases he : j = k
  · subst he
    rw [if_pos rfl]
    exact ⟨has_put_same h.isMap (show WideAt.IsKeyLit (kl j) from trivial) _, fun z => atKey_put_same h.isMap (show WideAt.IsKeyLit (kl j) from trivial) _ _⟩
  · rw [if_neg he]
    have hj2 := hs j hj
    rcases hV : V j with _ | x
    · rw [hV] at hj2
      exact ⟨by rw [has_put_other (kl_ne he)]; exact hj2.1, fun z => by rw [atKey_put_other (kl_ne he)]; exact hj2.2 z⟩
    · rw [hV] at hj2
      exact ⟨by rw [has_put_other (kl_ne he)]; exact hj2.1, fun z => by rw [atKey_put_other (kl_ne he)]; exact hj2.2 z⟩
theorem Ms.drop {w : World} {b n : Nat} {V : Nat → Option Value} (h : Ms w b n V) (k : Nat) (hk : k < 256) (ty : TypeId) :
    ∃ w', (Builtin.delete_ #[48, 5] ty #[.map (some b), .int .u8 k]).run Try.prog w = .ok (.tuple #[]) w' ∧ Ms w' b n (upd V k none) ∧ w.grownBy w' (some b) := by
  obtain ⟨D, h, hs⟩ := h
  obtain ⟨w', h1, h2, h3⟩ := h.drop keyed8 Try.underlying48 (key8 k hk) ty
  refine ⟨w', h1, ⟨_, h2, fun j hj => ?_⟩, h3.grown⟩
  unfold upd
  by_cases he : j = k
  · subst he
    rw [if_pos rfl]
    exact ⟨has_del_same, fun z => atKey_del_same z⟩
  · rw [if_neg he]
    have hj2 := hs j hj
    rcases hV : V j with _ | x
    · rw [hV] at hj2
      exact ⟨by rw [has_del_other (kl_ne he)]; exact hj2.1, fun z => by rw [atKey_del_other (kl_ne he)]; exact hj2.2 z⟩
    · rw [hV] at hj2
      exact ⟨by rw [has_del_other (kl_ne he)]; exact hj2.1, fun z => by rw [atKey_del_other (kl_ne he)]; exact hj2.2 z⟩
end Go.Proofs.Ytleicgigkbfnbaa
