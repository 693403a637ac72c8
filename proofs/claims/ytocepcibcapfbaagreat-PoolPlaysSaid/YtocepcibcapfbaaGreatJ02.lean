/- Rows of whatever elements: what a slice reads as; rows that a call itself made, appended to. -/
import Derived.Test.YtocepcibcapfbaaGreatJ01
namespace Go.Proofs.YtocepcibcapfbaaGreat
set_option linter.unusedVariables false
set_option linter.unusedSimpArgs false
open Go.RowKit

/-- A slice of n elements of s cells each (nil too) that reads as these cells. -/
def RV (w : World) (a : Option Addr) (n s : Nat) (l : List Value) : Prop :=
  l.length = n * s ∧ n ≤ maxLen ∧ ∀ i (h : i < l.length), ∃ p, a = some p ∧ w.cell? (p.add i) = some l[i]
theorem RV.nil (w : World) (a : Option Addr) (s : Nat) : RV w a 0 s [] := ⟨by simp, by unfold maxLen; omega, fun i h => by simp at h⟩
theorem RV.ptr {w : World} {a : Option Addr} {n s : Nat} {l : List Value} (h : RV w a n s l) (h0 : 0 < l.length) : ∃ p, a = some p ∧ ∀ i (hi : i < l.length), w.cell? (p.add i) = some l[i] := by
  obtain ⟨p, rfl, _⟩ := h.2.2 0 h0
  refine ⟨p, rfl, fun i hi => ?_⟩
  obtain ⟨q, e, hq⟩ := h.2.2 i hi
  cases e
  exact hq
theorem RV.of_cells {w w' : World} {a : Option Addr} {n s : Nat} {l : List Value} (h : RV w a n s l) (hc : ∀ p, a = some p → ∀ i, i < l.length → w'.cell? (p.add i) = w.cell? (p.add i)) : RV w' a n s l :=
  ⟨h.1, h.2.1, fun i hi => by obtain ⟨p, e, hp⟩ := h.2.2 i hi; exact ⟨p, e, by rw [hc p e i hi]; exact hp⟩⟩
theorem RV.below {w w' : World} {a : Option Addr} {n s : Nat} {l : List Value} (h : RV w a n s l) (hb : Below w.heap.size w w') : RV w' a n s l :=
  h.of_cells fun p e i hi => by
    obtain ⟨q, e', hq⟩ := h.2.2 i hi
    rw [e] at e'; cases e'
    exact hb.cell (lt_of_cell hq)
theorem RV.chg {S : Nat → Prop} {w w' : World} {a : Option Addr} {n s : Nat} {l : List Value} (h : RV w a n s l) (hb : Chg S w w') (hS : ∀ p, a = some p → ¬ S p.block) : RV w' a n s l :=
  h.of_cells fun p e i hi => by
    obtain ⟨q, e', hq⟩ := h.2.2 i hi
    rw [e] at e'; cases e'
    have hl := lt_of_cell hq
    exact World.cell?_of_block (w := w) (hb.block _ hl (by rw [add_block]; exact hS p e))
theorem RV_lit (w : World) (t : TypeId) (n s : Nat) (l : List Value) {fr : Nat × Nat} (hl : l.length = n * s) (hn : n ≤ maxLen) : RV (w.alloc (.cells l.toArray t fr)) (some ⟨w.heap.size, 0, none⟩) n s l :=
  ⟨hl, hn, fun i hi => ⟨_, rfl, by
    have hb : (w.alloc (.cells l.toArray t fr)).heap[w.heap.size]? = some (.cells l.toArray t fr) := alloc_new _ _ _ rfl
    have e : ((⟨w.heap.size, 0, none⟩ : Addr).add i) = ⟨w.heap.size, i, none⟩ := by unfold Addr.add; split <;> simp_all
    rw [e]
    simp only [World.cell?, hb]
    simp⟩⟩

/-- A slice type: its elements, their cells and bytes. -/
structure SlT (ts t : TypeId) (s by_ : Nat) : Prop where
  und : Tryz.prog.underlying ts = some (.slice t)
  info : ∃ z, (Tryz.prog.info? t).map (fun i => (i.zero, i.size, i.bytes)) = some (some z, s, by_) ∧ z.cells.size = s
  pos : 0 < s

/-- v is a row of n elements of the call's own (from block B on), or nil; its cells are l. -/
def OV (w : World) (B : Nat) (t : TypeId) (s : Nat) (v : Value) (n : Nat) (l : List Value) : Prop := w.ownsRow B t s v n l
theorem OV.nil (w : World) (B : Nat) (t : TypeId) (s : Nat) : OV w B t s (.slice none 0 0) 0 [] := World.ownsRow_nil w B _ _
theorem OV.form {w : World} {B : Nat} {t : TypeId} {s : Nat} {v : Value} {n : Nat} {l : List Value} (h : OV w B t s v n l) :
    ∃ a cap, v = .slice a n cap ∧ RV w a n s l ∧ n ≤ cap ∧ (∀ p, a = some p → B ≤ p.block ∧ p.block < w.heap.size ∧ v.ownBlock = some p.block) ∧ (a = none → l = []) := by
  have h0 := h
  rcases h.2 with ⟨rfl, e⟩ | ⟨g, cap, cur, rfl, hb, hg, hnc, hcm, hcs, htake⟩
  · subst e
    have hl : l = [] := List.eq_nil_of_length_eq_zero (by simpa using h.1)
    subst hl
    exact ⟨none, 0, rfl, RV.nil _ _ _, Nat.le_refl _, fun p h => by (cases h), fun _ => rfl⟩
  · refine ⟨_, cap, rfl, ⟨h0.1, Nat.le_trans hnc hcm, fun i hi => ⟨_, rfl, ?_⟩⟩, hnc, fun p hp => ?_, fun h => by (cases h)⟩
    · exact World.ownsRow.cells h0 (g := g) rfl i _ (List.getElem?_eq_getElem hi)
    · cases hp
      exact ⟨hb, lt_of_block hg, rfl⟩
theorem OV.pos {w : World} {B : Nat} {t : TypeId} {s : Nat} {v : Value} {n : Nat} {l : List Value} (h : OV w B t s v n l) (h0 : 0 < n) :
    ∃ g cap, v = .slice (some ⟨g, 0, none⟩) n cap ∧ B ≤ g ∧ g < w.heap.size ∧ RV w (some ⟨g, 0, none⟩) n s l ∧ n ≤ cap := by
  obtain ⟨g, cap, hv, hb, hg⟩ := World.ownsRow.form h h0
  obtain ⟨a, c, hv', hr, hc, _⟩ := h.form
  rw [hv] at hv'
  cases hv'
  exact ⟨g, cap, hv, hb, hg, hr, hc⟩
theorem OV.below {w w' : World} {B : Nat} {t : TypeId} {s : Nat} {v : Value} {n : Nat} {l : List Value} (h : OV w B t s v n l) (hb : Below w.heap.size w w') : OV w' B t s v n l :=
  World.ownsRow.kept (row := none) h ⟨hb.os, hb.tape, hb.output, hb.size, fun i hi _ => hb.block i hi⟩ (by cases v.ownBlock <;> simp)
theorem OV.alloc {w : World} {B : Nat} {t : TypeId} {s : Nat} {v : Value} {n : Nat} {l : List Value} (h : OV w B t s v n l) (o : Obj) : OV (w.alloc o) B t s v n l := World.ownsRow.alloc h o
theorem OV.mono {w : World} {B B' : Nat} {t : TypeId} {s : Nat} {v : Value} {n : Nat} {l : List Value} (h : OV w B t s v n l) (hB : B' ≤ B) : OV w B' t s v n l := by
  rcases h.2 with ⟨rfl, e⟩ | ⟨g, cap, cur, rfl, hbg, r⟩
  · exact ⟨h.1, .inl ⟨rfl, e⟩⟩
  · exact ⟨h.1, .inr ⟨g, cap, cur, rfl, by omega, r⟩⟩
theorem OV.len {w : World} {B : Nat} {t : TypeId} {s : Nat} {a : Option Addr} {m cap n : Nat} {l : List Value} (h : OV w B t s (.slice a m cap) n l) : m = n := by
  rcases h.2 with ⟨e, h0⟩ | ⟨g', cap', cur, e, _⟩
  · cases e; exact h0.symm
  · cases e; rfl
theorem OV.grown {w wr w1 : World} {B : Nat} {t : TypeId} {s : Nat} {v : Value} {n : Nat} {l : List Value} (h : OV wr B t s v n l) (hbl : Below B w wr) (hB : B ≤ wr.heap.size) (hg : wr.grownBy w1 v.ownBlock) : Below B w w1 :=
  hbl.grown hg hB (fun k hk => (World.ownsRow.lt h k hk).1)

/-- The run of 'append(v, x...)' onto a row of the call's own. -/
theorem run_appV {ts t : TypeId} {s by_ : Nat} (T : SlT ts t s by_) (w : World) (ty : TypeId) (B : Nat) (v : Value) (n : Nat) (l : List Value) (hown : OV w B t s v n l) (A : Option Addr) (m c : Nat) (k : List Value)
    (hr : RV w A m s k) (h1 : ∀ u ∈ k, u.oneCell' = true) (hb : (n + m) * by_ ≤ 140737488355328) (hm : n + m ≤ 140737488355328) (hB : B ≤ w.heap.size) :
    ∃ v' w', (Builtin.append_ #[ts, ts] ty #[v, .slice A m c]).run Tryz.prog w = .ok v' w' ∧ OV w' B t s v' (n + m) (l ++ k) ∧ w.grownBy w' v.ownBlock ∧
      (v'.ownBlock = v.ownBlock ∨ v'.ownBlock = some w.heap.size) := by
  obtain ⟨z, hz, hzs⟩ := T.info
  obtain ⟨i, hi, hz0, hz1, hz2⟩ := info_parts hz
  have hkl : k.length = m * s := hr.1
  have hsp := T.pos
  rcases A with _ | p
  · have hk : k = [] := by
      rcases k with _ | ⟨x, k⟩
      · rfl
      · obtain ⟨p, e, _⟩ := hr.2.2 0 (by simp)
        cases e
    subst hk
    have hm0 : m = 0 := by
      rcases Nat.eq_zero_or_pos m with h | h
      · exact h
      · have := Nat.mul_pos h hsp; simp at hkl; omega
    subst hm0
    refine ⟨v, w, ?_, by simpa using hown, World.grownBy.refl w _, .inl rfl⟩
    rcases hown.2 with ⟨rfl, e⟩ | ⟨g, cap, cur, rfl, _, _, hnc, _⟩
    · simp [Builtin.append_, run_underlying T.und, sizeOf, typeInfo, hi, Builtin.lenOf, Builtin.firstCells]
    · simp [Builtin.append_, run_underlying T.und, sizeOf, typeInfo, hi, Builtin.lenOf, Builtin.firstCells, hnc, storeCells]
  · obtain ⟨v', w', e1, e2, e3, _, e5⟩ := run_append_own_at (P := Tryz.prog) w B ts ty t i _ s by_ T.und hi hz0 hz1 hz2 hzs hsp v n l hown p m c k hkl
      (fun j u hu => by
        obtain ⟨hj, rfl⟩ := List.getElem?_eq_some_iff.1 hu
        obtain ⟨q, e, hq⟩ := hr.2.2 j hj
        cases e
        exact hq)
      h1 (by unfold maxLen; omega) hb hB
    exact ⟨v', w', e1, e2, e3, e5⟩
/-- At the operation, in a plain region. -/
theorem wpList_appV {ts t : TypeId} {s by_ : Nat} (T : SlT ts t s by_) (w : World) {ops : Array Oper} {rest : List Oper} {o : Oper} {a : Act} {Q : Exit → Act → World → Prop} (hgd : o.guard = none) (so x : Operand)
    (ho : o.op = .call { callee := .builtin .append, args := #[so, x], argTypes := #[ts, ts] })
    (B : Nat) (v : Value) (n : Nat) (l : List Value) (hs : a.eval so = v) (hown : OV w B t s v n l) (A : Option Addr) (m c : Nat) (k : List Value) (hx : a.eval x = .slice A m c) (hr : RV w A m s k) (h1 : ∀ u ∈ k, u.oneCell' = true)
    (hb : (n + m) * by_ ≤ 140737488355328) (hm : n + m ≤ 140737488355328) (hB : B ≤ w.heap.size)
    (h : ∀ v' w', OV w' B t s v' (n + m) (l ++ k) → w.grownBy w' v.ownBlock → (v'.ownBlock = v.ownBlock ∨ v'.ownBlock = some w.heap.size) → wpList Tryz.prog ops Q rest (a.put o.dst v') w') :
    wpList Tryz.prog ops Q (o :: rest) a w := by
  refine wpList_plain hgd fun K hK => ?_
  obtain ⟨v', w', e1, e2, e3, e4⟩ := run_appV T w o.type B v n l hown A m c k hr h1 hb hm hB
  unfold Oper.wp execOp
  simp only [ho, resolve, invoke, builtin, Sem.run_bind, Sem.run_pure, Result.andThen_ok, List.map_toArray, List.map_cons, List.map_nil, hs, hx, e1]
  exact hK _ _ (h v' w' e2 e3 e4)
/-- Rows of ints. -/
def iv (x : Int) : Value := .int .i64 x
def ivs (l : List Int) : List Value := l.map iv
theorem ivs_length (l : List Int) : (ivs l).length = l.length := by simp [ivs]
theorem ivs_one (l : List Int) : ∀ u ∈ ivs l, u.oneCell' = true := by
  intro u hu
  simp only [ivs, List.mem_map] at hu
  obtain ⟨c, _, rfl⟩ := hu
  rfl
def RI (w : World) (a : Option Addr) (n : Nat) (l : List Int) : Prop := RV w a n 1 (ivs l)
theorem RI.len {w : World} {a : Option Addr} {n : Nat} {l : List Int} (h : RI w a n l) : l.length = n := by have := h.1; rw [ivs_length] at this; omega
theorem RI.at {w : World} {a : Option Addr} {n : Nat} {l : List Int} (h : RI w a n l) (i : Nat) (hi : i < l.length) : ∃ p, a = some p ∧ w.cell? (p.add i) = some (.int .i64 l[i]) := by
  obtain ⟨p, e, hp⟩ := h.2.2 i (by rw [ivs_length]; exact hi)
  exact ⟨p, e, by rw [hp]; simp [ivs, iv]⟩
theorem RI.below {w w' : World} {a : Option Addr} {n : Nat} {l : List Int} (h : RI w a n l) (hb : Below w.heap.size w w') : RI w' a n l := RV.below h hb
theorem RI_lit (w : World) (t : TypeId) (l : List Int) {fr : Nat × Nat} (hl : l.length ≤ maxLen) : RI (w.alloc (.cells (ivs l).toArray t fr)) (some ⟨w.heap.size, 0, none⟩) l.length l := RV_lit w t l.length 1 (ivs l) (by rw [ivs_length]; omega) hl
end Go.Proofs.YtocepcibcapfbaaGreat
