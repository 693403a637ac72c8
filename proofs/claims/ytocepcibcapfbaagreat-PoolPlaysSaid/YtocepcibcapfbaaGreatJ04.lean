/- Words on worlds: what a call may have turned, by the types of the blocks. -/
import Derived.Test.YtocepcibcapfbaaGreatJ02
namespace Go.Proofs.YtocepcibcapfbaaGreat
set_option linter.unusedVariables false
set_option linter.unusedSimpArgs false
open Go.RowKit

/-- What a block is: cells of a type, or something else. -/
def tagO : Obj → Option TypeId
  | .cells _ t _ => some t
  | _ => none
def tagA (w : World) (k : Nat) : Option (Option TypeId) := (w.heap[k]?).map tagO
theorem tagA_cells {w : World} {k : Nat} {c : Array Value} {t : TypeId} {fr : Nat × Nat} (h : w.heap[k]? = some (.cells c t fr)) : tagA w k = some (some t) := by unfold tagA; rw [h]; rfl
theorem tagA_lt {w : World} {k : Nat} {t : Option TypeId} (h : tagA w k = some t) : k < w.heap.size := by
  unfold tagA at h
  rcases hk : w.heap[k]? with _ | o
  · rw [hk] at h; cases h
  · exact lt_of_block hk
theorem tagA_eq {w w' : World} {k : Nat} (h : w'.heap[k]? = w.heap[k]?) : tagA w' k = tagA w k := by unfold tagA; rw [h]
/-- Blocks from B on of the kinds T may be others; each is of the kind that it was. -/
structure Ty (B : Nat) (T : Option TypeId → Prop) (w w' : World) : Prop where
  os : w'.os = w.os
  tape : w'.tape = w.tape
  output : w'.output = w.output
  size : w.heap.size ≤ w'.heap.size
  tag : ∀ k, k < w.heap.size → tagA w' k = tagA w k
  block : ∀ k, k < w.heap.size → (B ≤ k → ∀ t, tagA w k = some t → ¬ T t) → w'.heap[k]? = w.heap[k]?
theorem Ty.refl (B : Nat) (T : Option TypeId → Prop) (w : World) : Ty B T w w := ⟨rfl, rfl, rfl, Nat.le_refl _, fun _ _ => rfl, fun _ _ _ => rfl⟩
theorem Ty.trans {B : Nat} {T : Option TypeId → Prop} {a b c : World} (h : Ty B T a b) (k : Ty B T b c) : Ty B T a c :=
  ⟨k.os.trans h.os, k.tape.trans h.tape, k.output.trans h.output, Nat.le_trans h.size k.size, fun i hi => (k.tag i (Nat.lt_of_lt_of_le hi h.size)).trans (h.tag i hi),
    fun i hi hs => (k.block i (Nat.lt_of_lt_of_le hi h.size) (fun hb t ht => hs hb t (by rw [← h.tag i hi]; exact ht))).trans (h.block i hi hs)⟩
theorem Ty.mono {B B' : Nat} {T T' : Option TypeId → Prop} {a b : World} (h : Ty B T a b) (hB : B' ≤ B) (hT : ∀ t, T t → T' t) : Ty B' T' a b :=
  ⟨h.os, h.tape, h.output, h.size, h.tag, fun i hi hs => h.block i hi (fun hb t ht hh => hs (by omega) t ht (hT t hh))⟩
theorem Ty.of_below {B : Nat} {T : Option TypeId → Prop} {w w' : World} (h : Below w.heap.size w w') : Ty B T w w' :=
  ⟨h.os, h.tape, h.output, h.size, fun k hk => tagA_eq (h.block k hk), fun k hk _ => h.block k hk⟩
/-- The second may turn whatever the first one has made. -/
theorem Ty.then {B C : Nat} {T U : Option TypeId → Prop} {a b c : World} (h : Ty B T a b) (k : Ty C U b c) (hk : ∀ i, i < a.heap.size → C ≤ i → ∀ t, tagA a i = some t → U t → B ≤ i ∧ T t) : Ty B T a c :=
  ⟨k.os.trans h.os, k.tape.trans h.tape, k.output.trans h.output, Nat.le_trans h.size k.size, fun i hi => (k.tag i (Nat.lt_of_lt_of_le hi h.size)).trans (h.tag i hi),
    fun i hi hs => (k.block i (Nat.lt_of_lt_of_le hi h.size) (fun hb t ht hu => by
      rw [h.tag i hi] at ht
      obtain ⟨h1, h2⟩ := hk i hi hb t ht hu
      exact hs h1 t ht h2)).trans (h.block i hi hs)⟩
/-- What turns new blocks alone, behind what turns some. -/
theorem Ty.new {B : Nat} {T U : Option TypeId → Prop} {a b c : World} (h : Ty B T a b) (k : Ty a.heap.size U b c) : Ty B T a c := h.then k (fun i hi hc => by omega)
theorem Ty.alloc {B : Nat} {T : Option TypeId → Prop} {a b : World} (h : Ty B T a b) (o : Obj) : Ty B T a (b.alloc o) := h.trans (Ty.of_below ((Below.refl _ b).alloc (Nat.le_refl _) o))
theorem Ty.drew {B : Nat} {T : Option TypeId → Prop} {a b : World} (h : Ty B T a b) : Ty B T a b.drew := h.trans (Ty.of_below ⟨rfl, rfl, rfl, Nat.le_refl _, fun _ _ => rfl⟩)
theorem tag_setCell (w : World) (p : Addr) (u : Value) (k : Nat) : tagA (w.setCell p u) k = tagA w k := by
  unfold tagA World.setCell
  simp only [Array.getElem?_modify]
  split
  · rename_i e
    subst e
    rcases hk : w.heap[p.block]? with _ | o
    · rfl
    · cases o <;> rfl
  · rfl
theorem Ty.setCell {B : Nat} {T : Option TypeId → Prop} {a b : World} (h : Ty B T a b) (p : Addr) (u : Value) (hp : a.heap.size ≤ p.block ∨ (B ≤ p.block ∧ ∃ t, tagA b p.block = some t ∧ T t)) : Ty B T a (b.setCell p u) := by
  have hs : Ty p.block (fun t => tagA b p.block = some t) b (b.setCell p u) := ⟨rfl, rfl, rfl, by simp [World.setCell], fun k _ => tag_setCell b p u k, fun k hk hn => by
    by_cases e : k = p.block
    · subst e
      rcases ht : tagA b p.block with _ | t
      · unfold tagA at ht
        rcases hb : b.heap[p.block]? with _ | o
        · rw [Array.getElem?_eq_none_iff] at hb; omega
        · rw [hb] at ht; cases ht
      · exact absurd ht (hn (Nat.le_refl _) t ht)
    · exact Below.heap_setCell _ _ _ _ e⟩
  refine ⟨hs.os.trans h.os, hs.tape.trans h.tape, hs.output.trans h.output, Nat.le_trans h.size hs.size, fun i hi => (hs.tag i (Nat.lt_of_lt_of_le hi h.size)).trans (h.tag i hi), fun i hi hn => ?_⟩
  refine Eq.trans ?_ (h.block i hi hn)
  by_cases e : i = p.block
  · subst e
    rcases hp with hp | ⟨h1, t, h2, h3⟩
    · omega
    · rw [h.tag _ hi] at h2
      exact absurd h3 (hn h1 t h2)
  · exact Below.heap_setCell _ _ _ _ e
/-- A row of the call's own, appended to. -/
theorem Ty.grown {B : Nat} {T : Option TypeId → Prop} {w w' : World} {row : Option Nat} (h : w.grownBy w' row) (ht : ∀ r, row = some r → tagA w' r = tagA w r ∧ B ≤ r ∧ ∃ t, tagA w r = some t ∧ T t) : Ty B T w w' :=
  ⟨h.os, h.tape, h.output, h.size, fun k hk => by
      by_cases e : row = some k
      · exact (ht k e).1
      · exact tagA_eq (h.block k hk (fun c => e c.symm)),
    fun k hk hn => by
      by_cases e : row = some k
      · obtain ⟨-, h1, t, h2, h3⟩ := ht k e
        exact absurd h3 (hn h1 t h2)
      · exact h.block k hk (fun c => e c.symm)⟩
/-- Below a block that was there, whatever is turned from there on. -/
theorem Ty.base {B : Nat} {T : Option TypeId → Prop} {w w' : World} (h : Ty B T w w') (hB : B ≤ w.heap.size) : Below B w w' :=
  ⟨h.os, h.tape, h.output, h.size, fun k hk => h.block k (by omega) (fun hb => by omega)⟩
theorem Ty.cells {B : Nat} {T : Option TypeId → Prop} {w w' : World} (h : Ty B T w w') {k : Nat} {c : Array Value} {t : TypeId} {fr : Nat × Nat} (hk : w.heap[k]? = some (.cells c t fr)) (ht : k < B ∨ ¬ T (some t)) : w'.heap[k]? = some (.cells c t fr) := by
  rw [h.block k (lt_of_block hk) (fun hb t' e => by
    rw [tagA_cells hk] at e
    cases e
    rcases ht with h | h
    · omega
    · exact h)]
  exact hk
/-- One block was turned, and kept its kind. -/
theorem Ty.of_chg {w w' : World} {g : Nat} {C C' : Array Value} {t : TypeId} {fr fr' : Nat × Nat} (h : Chg (fun k => k = g) w w') (h1 : w.heap[g]? = some (.cells C t fr)) (h2 : w'.heap[g]? = some (.cells C' t fr')) : Ty g (fun u => u = some t) w w' :=
  ⟨h.os, h.tape, h.output, h.size, fun k hk => by
      by_cases e : k = g
      · rw [e, tagA_cells h1, tagA_cells h2]
      · exact tagA_eq (h.block k hk e),
    fun k hk hn => h.block k hk (fun e => by rw [e] at hn; exact hn (Nat.le_refl _) _ (tagA_cells h1) rfl)⟩
/-- A slice that is read, its block of a kind that stays. -/
def Kp (B : Nat) (T : Option TypeId → Prop) (w : World) (a : Option Addr) : Prop := ∀ p, a = some p → p.block < B ∨ ∃ t, tagA w p.block = some t ∧ ¬ T t
theorem Kp.keep {B : Nat} {T : Option TypeId → Prop} {w w' : World} {a : Option Addr} (h : Kp B T w a) (hw : Ty B T w w') (p : Addr) (hp : a = some p) (hl : p.block < w.heap.size) : w'.heap[p.block]? = w.heap[p.block]? := by
  refine hw.block _ hl (fun hb t ht => ?_)
  rcases h p hp with h | ⟨t', h1, h2⟩
  · omega
  · rw [h1] at ht
    cases ht
    exact h2
theorem Rd.ty {B : Nat} {T : Option TypeId → Prop} {w w' : World} {a : Option Addr} {n : Nat} {l : List UInt8} (h : Rd w a n l) (hw : Ty B T w w') (hk : 0 < n → Kp B T w a) : Rd w' a n l :=
  h.of_cells fun p e i hi => by
    obtain ⟨q, e', hq⟩ := h.2.2 i hi
    rw [e] at e'; cases e'
    have hl := lt_of_cell hq
    rw [add_block] at hl
    refine World.cell?_of_block (w := w) ?_
    rw [add_block]
    exact Kp.keep (hk (by have := h.1; omega)) hw p e hl
theorem RV.ty {B : Nat} {T : Option TypeId → Prop} {w w' : World} {a : Option Addr} {n s : Nat} {l : List Value} (h : RV w a n s l) (hw : Ty B T w w') (hk : 0 < l.length → Kp B T w a) : RV w' a n s l :=
  h.of_cells fun p e i hi => by
    obtain ⟨q, e', hq⟩ := h.2.2 i hi
    rw [e] at e'; cases e'
    have hl := lt_of_cell hq
    rw [add_block] at hl
    refine World.cell?_of_block (w := w) ?_
    rw [add_block]
    exact Kp.keep (hk (by omega)) hw p e hl
/-- A row of the call's own: its kind. -/
theorem OV.tag {w : World} {B : Nat} {t : TypeId} {s : Nat} {v : Value} {n : Nat} {l : List Value} (h : OV w B t s v n l) (k : Nat) (hk : v.ownBlock = some k) : tagA w k = some (some t) ∧ B ≤ k := by
  rcases h.2 with ⟨rfl, e⟩ | ⟨g, cap, cur, rfl, hb, hg, -⟩
  · simp [Value.ownBlock] at hk
  · simp [Value.ownBlock] at hk
    subst hk
    exact ⟨tagA_cells hg, hb⟩
theorem OV.ty {C B : Nat} {T : Option TypeId → Prop} {w w' : World} {t : TypeId} {s : Nat} {v : Value} {n : Nat} {l : List Value} (h : OV w B t s v n l) (hw : Ty C T w w') (ht : ∀ k, v.ownBlock = some k → k < C ∨ ¬ T (some t)) : OV w' B t s v n l := by
  have h0 := h
  rcases h.2 with ⟨rfl, e⟩ | ⟨g, cap, cur, rfl, hb, hg, r⟩
  · exact ⟨h.1, .inl ⟨rfl, e⟩⟩
  · exact ⟨h.1, .inr ⟨g, cap, cur, rfl, hb, hw.cells hg (ht g rfl), r⟩⟩
end Go.Proofs.YtocepcibcapfbaaGreat
