/- Rows of whatever elements: what a slice reads as; rows that a call itself made, appended to. -/
import Derived.Test.YtnjpaanjgbfbaaaGreatJ05
import Derived.Test.YtnjpaanjgbfbaaaGreatJ08
import Derived.Deep.OwnRows
import Derived.Test.YtnjpaanjgbfbaaaGreatJ03
import Derived.Test.YtnjpaanjgbfbaaaGreatJ01
namespace Go.Proofs.YtnjpaanjgbfbaaaGreat
set_option linter.unusedVariables false
set_option linter.unusedSimpArgs false
open Go.RowKit

/-- A slice of n elements of s cells each (nil too) that reads as these cells. -/
def RV (w : World) (a : Option Addr) (n s : Nat) (l : List Value) : Prop :=
  l.length = n * s ∧ n ≤ maxLen ∧ ∀ i (h : i < l.length), ∃ p, a = some p ∧ w.cell? (p.add i) = some l[i]
theorem RV.nil (w : World) (a : Option Addr) (s : Nat) : RV w a 0 s [] := ⟨by simp, by unfold maxLen; omega, fun i h => by simp at h⟩
theorem RV.at {w : World} {a : Option Addr} {n s : Nat} {l : List Value} (h : RV w a n s l) (i : Nat) (hi : i < l.length) : ∃ p, a = some p ∧ w.cell? (p.add i) = some l[i] := h.2.2 i hi
theorem RV.of_cells {w w' : World} {a : Option Addr} {n s : Nat} {l : List Value} (h : RV w a n s l) (hc : ∀ p, a = some p → ∀ i, i < l.length → w'.cell? (p.add i) = w.cell? (p.add i)) : RV w' a n s l :=
  ⟨h.1, h.2.1, fun i hi => by obtain ⟨p, e, hp⟩ := h.2.2 i hi; exact ⟨p, e, by rw [hc p e i hi]; exact hp⟩⟩
theorem RV.below {w w' : World} {a : Option Addr} {n s : Nat} {l : List Value} (h : RV w a n s l) (hb : Below w.heap.size w w') : RV w' a n s l :=
  h.of_cells fun p e i hi => by
    obtain ⟨q, e', hq⟩ := h.2.2 i hi
    rw [e] at e'; cases e'
    exact hb.cell (lt_of_cell hq)
theorem RV.chg {S : Nat → Prop} {w w' : World} {a : Option Addr} {n s : Nat} {l : List Value} (h : RV w a n s l) (hb : Chg S w w') (hS : ∀ p, a = some p → ¬ S p.block) : RV w' a n s l :=
  h.of_cells fun p e i hi => by
    obtain ⟨q, e', hq⟩ := h.2.2 i hi
    rw [e] at e'; cases e'
    have hl := lt_of_cell hq
    exact World.cell?_of_block (w := w) (hb.block _ hl (by rw [add_block]; exact hS p e))
theorem RV.lt {w : World} {a : Option Addr} {n s : Nat} {l : List Value} (h : RV w a n s l) (h0 : 0 < l.length) (p : Addr) (hp : a = some p) : p.block < w.heap.size := by
  obtain ⟨q, e, hq⟩ := h.2.2 0 h0
  rw [hp] at e; cases e
  have := lt_of_cell hq
  rwa [add_block] at this
theorem RV_lit (w : World) (t : TypeId) (n s : Nat) (l : List Value) {fr : Nat × Nat} (hl : l.length = n * s) (hn : n ≤ maxLen) : RV (w.alloc (.cells l.toArray t fr)) (some ⟨w.heap.size, 0, none⟩) n s l :=
  ⟨hl, hn, fun i hi => ⟨_, rfl, by
    have hb : (w.alloc (.cells l.toArray t fr)).heap[w.heap.size]? = some (.cells l.toArray t fr) := alloc_new _ _ _ rfl
    have e : ((⟨w.heap.size, 0, none⟩ : Addr).add i) = ⟨w.heap.size, i, none⟩ := by unfold Addr.add; split <;> simp_all
    rw [e]
    simp only [World.cell?, hb]
    simp⟩⟩

/-- A slice type: its elements, their cells and bytes. -/
structure SlT (ts t : TypeId) (s by_ : Nat) : Prop where
  und : Tryz.prog.underlying ts = some (.slice t)
  info : ∃ z, (Tryz.prog.info? t).map (fun i => (i.zero, i.size, i.bytes)) = some (some z, s, by_) ∧ z.cells.size = s
  pos : 0 < s

/-- v is a row of n elements of the call's own (from block B on), or nil; its cells are l. -/
def OV (w : World) (B : Nat) (t : TypeId) (s : Nat) (v : Value) (n : Nat) (l : List Value) : Prop := w.ownsRow B t s v n l
theorem OV.nil (w : World) (B : Nat) (t : TypeId) (s : Nat) : OV w B t s (.slice none 0 0) 0 [] := World.ownsRow_nil w B _ _
theorem OV.form {w : World} {B : Nat} {t : TypeId} {s : Nat} {v : Value} {n : Nat} {l : List Value} (h : OV w B t s v n l) :
    ∃ a cap, v = .slice a n cap ∧ RV w a n s l ∧ n ≤ cap ∧ (∀ p, a = some p → B ≤ p.block ∧ p.block < w.heap.size ∧ v.ownBlock = some p.block) ∧ (a = none → l = []) := by
  have h0 := h
  rcases h.2 with ⟨rfl, e⟩ | ⟨g, cap, cur, rfl, hb, hg, hnc, hcm, hcs, htake⟩
  · subst e
    have hl : l = [] := List.eq_nil_of_length_eq_zero (by simpa using h.1)
    subst hl
    exact ⟨none, 0, rfl, RV.nil _ _ _, Nat.le_refl _, fun p h => by (cases h), fun _ => rfl⟩
  · refine ⟨_, cap, rfl, ⟨h0.1, Nat.le_trans hnc hcm, fun i hi => ⟨_, rfl, ?_⟩⟩, hnc, fun p hp => ?_, fun h => by (cases h)⟩
    · exact World.ownsRow.cells h0 (g := g) rfl i _ (List.getElem?_eq_getElem hi)
    · cases hp
      exact ⟨hb, lt_of_block hg, rfl⟩
theorem OV.pos {w : World} {B : Nat} {t : TypeId} {s : Nat} {v : Value} {n : Nat} {l : List Value} (h : OV w B t s v n l) (h0 : 0 < n) :
    ∃ g cap, v = .slice (some ⟨g, 0, none⟩) n cap ∧ B ≤ g ∧ g < w.heap.size ∧ RV w (some ⟨g, 0, none⟩) n s l ∧ n ≤ cap := by
  obtain ⟨g, cap, hv, hb, hg⟩ := World.ownsRow.form h h0
  obtain ⟨a, c, hv', hr, hc, _⟩ := h.form
  rw [hv] at hv'
  cases hv'
  exact ⟨g, cap, hv, hb, hg, hr, hc⟩
theorem OV.below {w w' : World} {B : Nat} {t : TypeId} {s : Nat} {v : Value} {n : Nat} {l : List Value} (h : OV w B t s v n l) (hb : Below w.heap.size w w') : OV w' B t s v n l :=
  World.ownsRow.kept (row := none) h ⟨hb.os, hb.tape, hb.output, hb.size, fun i hi _ => hb.block i hi⟩ (by cases v.ownBlock <;> simp)
theorem OV.alloc {w : World} {B : Nat} {t : TypeId} {s : Nat} {v : Value} {n : Nat} {l : List Value} (h : OV w B t s v n l) (o : Obj) : OV (w.alloc o) B t s v n l := World.ownsRow.alloc h o
theorem OV.mono {w : World} {B B' : Nat} {t : TypeId} {s : Nat} {v : Value} {n : Nat} {l : List Value} (h : OV w B t s v n l) (hB : B' ≤ B) : OV w B' t s v n l := by
  rcases h.2 with ⟨rfl, e⟩ | ⟨g, cap, cur, rfl, hbg, r⟩
  · exact ⟨h.1, .inl ⟨rfl, e⟩⟩
  · exact ⟨h.1, .inr ⟨g, cap, cur, rfl, by omega, r⟩⟩
theorem OV.len {w : World} {B : Nat} {t : TypeId} {s : Nat} {a : Option Addr} {m cap n : Nat} {l : List Value} (h : OV w B t s (.slice a m cap) n l) : m = n := by
  rcases h.2 with ⟨e, h0⟩ | ⟨g', cap', cur, e, _⟩
  · cases e; exact h0.symm
  · cases e; rfl
theorem OV.grown {w wr w1 : World} {B : Nat} {t : TypeId} {s : Nat} {v : Value} {n : Nat} {l : List Value} (h : OV wr B t s v n l) (hbl : Below B w wr) (hB : B ≤ wr.heap.size) (hg : wr.grownBy w1 v.ownBlock) : Below B w w1 :=
  hbl.grown hg hB (fun k hk => (World.ownsRow.lt h k hk).1)

/-- The run of 'append(v, x...)' onto a row of the call's own. -/
theorem run_appV {ts t : TypeId} {s by_ : Nat} (T : SlT ts t s by_) (w : World) (ty : TypeId) (B : Nat) (v : Value) (n : Nat) (l : List Value) (hown : OV w B t s v n l) (A : Option Addr) (m c : Nat) (k : List Value)
    (hr : RV w A m s k) (h1 : ∀ u ∈ k, u.oneCell' = true) (hb : (n + m) * by_ ≤ 140737488355328) (hm : n + m ≤ 140737488355328) (hB : B ≤ w.heap.size) :
    ∃ v' w', (Builtin.append_ #[ts, ts] ty #[v, .slice A m c]).run Tryz.prog w = .ok v' w' ∧ OV w' B t s v' (n + m) (l ++ k) ∧ w.grownBy w' v.ownBlock ∧
      (v'.ownBlock = v.ownBlock ∨ v'.ownBlock = some w.heap.size) := by
  obtain ⟨z, hz, hzs⟩ := T.info
  obtain ⟨i, hi, hz0, hz1, hz2⟩ := info_parts hz
  have hkl : k.length = m * s := hr.1
  have hsp := T.pos
  rcases A with _ | p
  · have hk : k = [] := by
      rcases k with _ | ⟨x, k⟩
      · rfl
      · obtain ⟨p, e, _⟩ := hr.2.2 0 (by simp)
        cases e
    subst hk
    have hm0 : m = 0 := by
      rcases Nat.eq_zero_or_pos m with h | h
      · exact h
      · have := Nat.mul_pos h hsp; simp at hkl; omega
    subst hm0
    refine ⟨v, w, ?_, by simpa using hown, World.grownBy.refl w _, .inl rfl⟩
    rcases hown.2 with ⟨rfl, e⟩ | ⟨g, cap, cur, rfl, _, _, hnc, _⟩
    · simp [Builtin.append_, run_underlying T.und, sizeOf, typeInfo, hi, Builtin.lenOf, Builtin.firstCells]
    · simp [Builtin.append_, run_underlying T.und, sizeOf, typeInfo, hi, Builtin.lenOf, Builtin.firstCells, hnc, storeCells]
  · obtain ⟨v', w', e1, e2, e3, _, e5⟩ := run_append_own_at (P := Tryz.prog) w B ts ty t i _ s by_ T.und hi hz0 hz1 hz2 hzs hsp v n l hown p m c k hkl
      (fun j u hu => by
        obtain ⟨hj, rfl⟩ := List.getElem?_eq_some_iff.1 hu
        obtain ⟨q, e, hq⟩ := hr.2.2 j hj
        cases e
        exact hq)
      h1 (by unfold maxLen; omega) hb hB
    exact ⟨v', w', e1, e2, e3, e5⟩
/-- At the operation, in a plain region. -/
theorem wpList_appV {ts t : TypeId} {s by_ : Nat} (T : SlT ts t s by_) (w : World) {ops : Array Oper} {rest : List Oper} {o : Oper} {a : Act} {Q : Exit → Act → World → Prop} (hgd : o.guard = none) (so x : Operand)
    (ho : o.op = .call { callee := .builtin .append, args := #[so, x], argTypes := #[ts, ts] })
    (B : Nat) (v : Value) (n : Nat) (l : List Value) (hs : a.eval so = v) (hown : OV w B t s v n l) (A : Option Addr) (m c : Nat) (k : List Value) (hx : a.eval x = .slice A m c) (hr : RV w A m s k) (h1 : ∀ u ∈ k, u.oneCell' = true)
    (hb : (n + m) * by_ ≤ 140737488355328) (hm : n + m ≤ 140737488355328) (hB : B ≤ w.heap.size)
    (h : ∀ v' w', OV w' B t s v' (n + m) (l ++ k) → w.grownBy w' v.ownBlock → (v'.ownBlock = v.ownBlock ∨ v'.ownBlock = some w.heap.size) → wpList Tryz.prog ops Q rest (a.put o.dst v') w') :
    wpList Tryz.prog ops Q (o :: rest) a w := by
  refine wpList_plain hgd fun K hK => ?_
  obtain ⟨v', w', e1, e2, e3, e4⟩ := run_appV T w o.type B v n l hown A m c k hr h1 hb hm hB
  unfold Oper.wp execOp
  simp only [ho, resolve, invoke, builtin, Sem.run_bind, Sem.run_pure, Result.andThen_ok, List.map_toArray, List.map_cons, List.map_nil, hs, hx, e1]
  exact hK _ _ (h v' w' e2 e3 e4)
/-- At the operation, in a region that draws its order. -/
theorem step_appV {ts t : TypeId} {s by_ : Nat} (T : SlT ts t s by_) (w : World) {ops : Array Oper} {o : Oper} {a : Act} {K : Act → World → Prop} {Q : Exit → Act → World → Prop} {E : Prop} (hgd : o.guard = none) (so x : Operand)
    (ho : o.op = .call { callee := .builtin .append, args := #[so, x], argTypes := #[ts, ts] })
    (B : Nat) (v : Value) (n : Nat) (l : List Value) (hs : a.eval so = v) (hown : OV w B t s v n l) (A : Option Addr) (m c : Nat) (k : List Value) (hx : a.eval x = .slice A m c) (hr : RV w A m s k) (h1 : ∀ u ∈ k, u.oneCell' = true)
    (hb : (n + m) * by_ ≤ 140737488355328) (hm : n + m ≤ 140737488355328) (hB : B ≤ w.heap.size)
    (h : ∀ v' w', OV w' B t s v' (n + m) (l ++ k) → w.grownBy w' v.ownBlock → (v'.ownBlock = v.ownBlock ∨ v'.ownBlock = some w.heap.size) → K (a.put o.dst v') w') :
    if Region.wanted o (yielded ops a.tmps) = true then Oper.wp Tryz.prog o a w K Q else E := by
  have hw : Region.wanted o (yielded ops a.tmps) = true := by simp [Region.wanted, hgd]
  rw [if_pos hw]
  obtain ⟨v', w', e1, e2, e3, e4⟩ := run_appV T w o.type B v n l hown A m c k hr h1 hb hm hB
  unfold Oper.wp execOp
  simp only [ho, resolve, invoke, builtin, Sem.run_bind, Sem.run_pure, Result.andThen_ok, List.map_toArray, List.map_cons, List.map_nil, hs, hx, e1]
  exact h v' w' e2 e3 e4

/-- Rows of ints. -/
def iv (x : Int) : Value := .int .i64 x
def ivs (l : List Int) : List Value := l.map iv
theorem ivs_length (l : List Int) : (ivs l).length = l.length := by simp [ivs]
theorem ivs_one (l : List Int) : ∀ u ∈ ivs l, u.oneCell' = true := by
  intro u hu
  simp only [ivs, List.mem_map] at hu
  obtain ⟨c, _, rfl⟩ := hu
  rfl
def RI (w : World) (a : Option Addr) (n : Nat) (l : List Int) : Prop := RV w a n 1 (ivs l)
theorem RI.len {w : World} {a : Option Addr} {n : Nat} {l : List Int} (h : RI w a n l) : l.length = n := by have := h.1; rw [ivs_length] at this; omega
theorem RI.at {w : World} {a : Option Addr} {n : Nat} {l : List Int} (h : RI w a n l) (i : Nat) (hi : i < l.length) : ∃ p, a = some p ∧ w.cell? (p.add i) = some (.int .i64 l[i]) := by
  obtain ⟨p, e, hp⟩ := h.2.2 i (by rw [ivs_length]; exact hi)
  exact ⟨p, e, by rw [hp]; simp [ivs, iv]⟩
theorem RI.below {w w' : World} {a : Option Addr} {n : Nat} {l : List Int} (h : RI w a n l) (hb : Below w.heap.size w w') : RI w' a n l := RV.below h hb
theorem RI_lit (w : World) (t : TypeId) (l : List Int) {fr : Nat × Nat} (hl : l.length ≤ maxLen) : RI (w.alloc (.cells (ivs l).toArray t fr)) (some ⟨w.heap.size, 0, none⟩) l.length l := RV_lit w t l.length 1 (ivs l) (by rw [ivs_length]; omega) hl
end Go.Proofs.YtnjpaanjgbfbaaaGreat
/- Superblocks: what a page's bytes say. Plain law. -/
namespace Go.Proofs.YtnjpaanjgbfbaaaGreat.P
def dec (b : List UInt8) : Sup := ⟨(get b 0 8).1, (get b 8 4).1, (get b 12 4).1, (get b 16 2).1, (get b 18 4).1, (get b 22 4).1, (get b 26 4).1, (get b 30 4).1⟩
def Sup.zero : Sup := ⟨0, 0, 0, 0, 0, 0, 0, 0⟩
def sErr (l : List UInt8) : Int :=
  if openErr l ≠ 0 then openErr l else if openKind l = 1 ∧ openLevel l = 0 ∧ openCount l = 0 ∧ ((openBody l).drop 34).all (· == 0) = true ∧ (dec (openBody l)).chk = 0 then 0 else 4
def sSup (l : List UInt8) : Sup := if sErr l = 0 then dec (openBody l) else .zero
theorem sErr_open {l : List UInt8} (h : openErr l ≠ 0) : sErr l = openErr l ∧ sSup l = .zero := by
  have e : sErr l = openErr l := by simp [sErr, h]
  exact ⟨e, by simp [sSup, e, h]⟩
theorem sErr_bad {l : List UInt8} (h : openErr l = 0) (hn : ¬ (openKind l = 1 ∧ openLevel l = 0 ∧ openCount l = 0 ∧ ((openBody l).drop 34).all (· == 0) = true ∧ (dec (openBody l)).chk = 0)) : sErr l = 4 ∧ sSup l = .zero := by
  have e : sErr l = 4 := by unfold sErr; rw [if_neg (by simpa using h), if_neg hn]
  exact ⟨e, by simp [sSup, e]⟩
theorem sErr_good {l : List UInt8} (h : openErr l = 0) (hn : openKind l = 1 ∧ openLevel l = 0 ∧ openCount l = 0 ∧ ((openBody l).drop 34).all (· == 0) = true ∧ (dec (openBody l)).chk = 0) : sErr l = 0 ∧ sSup l = dec (openBody l) := by
  have e : sErr l = 0 := by unfold sErr; rw [if_neg (by simpa using h), if_pos hn]
  exact ⟨e, by simp [sSup, e]⟩
end Go.Proofs.YtnjpaanjgbfbaaaGreat.P
/- Superblocks: there and back; the one or the other. Plain law. -/
namespace Go.Proofs.YtnjpaanjgbfbaaaGreat.P
theorem get_mid (p q r : List UInt8) (x : Int) (n : Nat) (h1 : 1 ≤ n) (h2 : n ≤ 8) (h0 : 0 ≤ x) (h3 : x ≤ 1152921504606846976) (h4 : x < 256 ^ n) (hq : q = be n x.toNat) :
    get (p ++ (q ++ r)) (p.length : Nat) (n : Nat) = (x, true) := by
  have hl : q.length = n := by rw [hq, be_length]
  have hs : slice (p ++ (q ++ r)) p.length n = q := by
    simp [slice, hl]
  have hn : num q = x.toNat := by
    rw [hq, num_be]
    have : ((256 ^ n : Nat) : Int) = (256 : Int) ^ n := by simp
    omega
  unfold get
  rw [if_pos (by simp [lies, hl]; omega)]
  simp only [Int.toNat_natCast, hs, hn]
  rw [if_neg (by omega)]
  simp only [Prod.mk.injEq, and_true]
  omega
theorem get_at (b p q r : List UInt8) (x : Int) (at_ n : Nat) (hb : b = p ++ (q ++ r)) (hp : p.length = at_) (h1 : 1 ≤ n) (h2 : n ≤ 8) (h0 : 0 ≤ x) (h3 : x ≤ 1152921504606846976) (h4 : x < 256 ^ n) (hq : q = be n x.toNat) :
    (get b (at_ : Nat) (n : Nat)).1 = x := by
  subst hb hp
  rw [get_mid p q r x n h1 h2 h0 h3 h4 hq]
theorem Sup.sealOk (x : Sup) : sealErr 1 0 0 x.body.length = 0 := by rw [x.body_length]; decide
theorem Sup.page_eq {x : Sup} (h : x.chk = 0) : x.page = P.page 1 0 0 x.body := by unfold Sup.page; rw [if_pos h]
theorem Sup.bounds {x : Sup} (h : x.chk = 0) : (0 ≤ x.g ∧ x.g ≤ 1152921504606846976) ∧ (0 ≤ x.p ∧ x.p ≤ 4096) ∧ (0 ≤ x.r ∧ x.r ≤ 4096) ∧ (0 ≤ x.h ∧ x.h ≤ 32) ∧ (0 ≤ x.b ∧ x.b ≤ 1048576) ∧ (0 ≤ x.l ∧ x.l ≤ 1048576) ∧ (0 ≤ x.s ∧ x.s ≤ 4096) ∧ (0 ≤ x.f ∧ x.f ≤ 4096) := by
  have hm := x.may_iff
  rcases x.chk_cases with ⟨m, -⟩ | ⟨-, e⟩
  · have := hm.1 m
    omega
  · omega
theorem dec_body_page {x : Sup} (h : x.chk = 0) (z : List UInt8) : dec (x.body ++ z) = x := by
  obtain ⟨g1, p1, r1, h1, b1, l1, s1, f1⟩ := Sup.bounds h
  have l8 := be_length 8 x.g.toNat
  have lp := be_length 4 x.p.toNat
  have lr := be_length 4 x.r.toNat
  have lh := be_length 2 x.h.toNat
  have lb := be_length 4 x.b.toNat
  have ll := be_length 4 x.l.toNat
  have ls := be_length 4 x.s.toNat
  have lf := be_length 4 x.f.toNat
  unfold dec
  unfold Sup.body
  have c0 := get_at (be 8 x.g.toNat ++ be 4 x.p.toNat ++ be 4 x.r.toNat ++ be 2 x.h.toNat ++ be 4 x.b.toNat ++ be 4 x.l.toNat ++ be 4 x.s.toNat ++ be 4 x.f.toNat ++ z) [] (be 8 x.g.toNat) _ x.g 0 8 (by simp only [List.append_assoc, List.nil_append]; rfl) (by simp) (by omega) (by omega) g1.1 (by omega) (by omega) rfl
  have c1 := get_at (be 8 x.g.toNat ++ be 4 x.p.toNat ++ be 4 x.r.toNat ++ be 2 x.h.toNat ++ be 4 x.b.toNat ++ be 4 x.l.toNat ++ be 4 x.s.toNat ++ be 4 x.f.toNat ++ z) (be 8 x.g.toNat) (be 4 x.p.toNat) _ x.p 8 4 (by simp only [List.append_assoc]; rfl) (by omega) (by omega) (by omega) p1.1 (by omega) (by omega) rfl
  have c2 := get_at (be 8 x.g.toNat ++ be 4 x.p.toNat ++ be 4 x.r.toNat ++ be 2 x.h.toNat ++ be 4 x.b.toNat ++ be 4 x.l.toNat ++ be 4 x.s.toNat ++ be 4 x.f.toNat ++ z) (be 8 x.g.toNat ++ be 4 x.p.toNat) (be 4 x.r.toNat) _ x.r 12 4 (by simp only [List.append_assoc]; rfl) (by simp only [List.length_append]; omega) (by omega) (by omega) r1.1 (by omega) (by omega) rfl
  have c3 := get_at (be 8 x.g.toNat ++ be 4 x.p.toNat ++ be 4 x.r.toNat ++ be 2 x.h.toNat ++ be 4 x.b.toNat ++ be 4 x.l.toNat ++ be 4 x.s.toNat ++ be 4 x.f.toNat ++ z) (be 8 x.g.toNat ++ be 4 x.p.toNat ++ be 4 x.r.toNat) (be 2 x.h.toNat) _ x.h 16 2 (by simp only [List.append_assoc]; rfl) (by simp only [List.length_append]; omega) (by omega) (by omega) h1.1 (by omega) (by omega) rfl
  have c4 := get_at (be 8 x.g.toNat ++ be 4 x.p.toNat ++ be 4 x.r.toNat ++ be 2 x.h.toNat ++ be 4 x.b.toNat ++ be 4 x.l.toNat ++ be 4 x.s.toNat ++ be 4 x.f.toNat ++ z) (be 8 x.g.toNat ++ be 4 x.p.toNat ++ be 4 x.r.toNat ++ be 2 x.h.toNat) (be 4 x.b.toNat) _ x.b 18 4 (by simp only [List.append_assoc]; rfl) (by simp only [List.length_append]; omega) (by omega) (by omega) b1.1 (by omega) (by omega) rfl
  have c5 := get_at (be 8 x.g.toNat ++ be 4 x.p.toNat ++ be 4 x.r.toNat ++ be 2 x.h.toNat ++ be 4 x.b.toNat ++ be 4 x.l.toNat ++ be 4 x.s.toNat ++ be 4 x.f.toNat ++ z) (be 8 x.g.toNat ++ be 4 x.p.toNat ++ be 4 x.r.toNat ++ be 2 x.h.toNat ++ be 4 x.b.toNat) (be 4 x.l.toNat) _ x.l 22 4 (by simp only [List.append_assoc]; rfl) (by simp only [List.length_append]; omega) (by omega) (by omega) l1.1 (by omega) (by omega) rfl
  have c6 := get_at (be 8 x.g.toNat ++ be 4 x.p.toNat ++ be 4 x.r.toNat ++ be 2 x.h.toNat ++ be 4 x.b.toNat ++ be 4 x.l.toNat ++ be 4 x.s.toNat ++ be 4 x.f.toNat ++ z) (be 8 x.g.toNat ++ be 4 x.p.toNat ++ be 4 x.r.toNat ++ be 2 x.h.toNat ++ be 4 x.b.toNat ++ be 4 x.l.toNat) (be 4 x.s.toNat) _ x.s 26 4 (by simp only [List.append_assoc]; rfl) (by simp only [List.length_append]; omega) (by omega) (by omega) s1.1 (by omega) (by omega) rfl
  have c7 := get_at (be 8 x.g.toNat ++ be 4 x.p.toNat ++ be 4 x.r.toNat ++ be 2 x.h.toNat ++ be 4 x.b.toNat ++ be 4 x.l.toNat ++ be 4 x.s.toNat ++ be 4 x.f.toNat ++ z) (be 8 x.g.toNat ++ be 4 x.p.toNat ++ be 4 x.r.toNat ++ be 2 x.h.toNat ++ be 4 x.b.toNat ++ be 4 x.l.toNat ++ be 4 x.s.toNat) (be 4 x.f.toNat) _ x.f 30 4 (by simp only [List.append_assoc]; rfl) (by simp only [List.length_append]; omega) (by omega) (by omega) f1.1 (by omega) (by omega) rfl
  simp only [Int.cast_ofNat_Int] at c0 c1 c2 c3 c4 c5 c6 c7
  rw [c1, c2, c3, c4, c5, c6, c7]
  have c0' : (get (be 8 x.g.toNat ++ be 4 x.p.toNat ++ be 4 x.r.toNat ++ be 2 x.h.toNat ++ be 4 x.b.toNat ++ be 4 x.l.toNat ++ be 4 x.s.toNat ++ be 4 x.f.toNat ++ z) 0 8).1 = x.g := c0
  rw [c0']
theorem sErr_page {x : Sup} (h : x.chk = 0) : sErr x.page = 0 ∧ sSup x.page = x := by
  have ho := page_open x.sealOk
  simp only [Int.toNat_one, Int.toNat_zero] at ho
  rw [Sup.page_eq h]
  obtain ⟨h1, h2, h3, h4, h5⟩ := ho
  have hd : dec (openBody (P.page 1 0 0 x.body)) = x := by rw [h5]; exact dec_body_page h _
  have hz : ((openBody (P.page 1 0 0 x.body)).drop 34).all (· == 0) = true := by
    rw [h5, List.drop_append_of_le_length (by rw [x.body_length]; omega), List.drop_eq_nil_of_le (by rw [x.body_length]; omega)]
    simp
  have hg := sErr_good h1 ⟨h2, h3, h4, hz, by rw [hd]; exact h⟩
  rw [hd] at hg
  exact hg

theorem Sup.page_length {x : Sup} (h : x.chk = 0) : x.page.length = 256 := by rw [Sup.page_eq h]; exact P.page_length _ _ _ _ (by rw [x.body_length]; omega)
end Go.Proofs.YtnjpaanjgbfbaaaGreat.P
/- Cells: pieces and kids as bytes, there and back. Plain law. -/
namespace Go.Proofs.YtnjpaanjgbfbaaaGreat.P
structure Q where
  a : Int
  b : Int
  c : Int
  d : Int
deriving DecidableEq

def Q.mayP (x : Q) : Bool := decide (2 ≤ x.a ∧ x.a < 4096 ∧ 1 ≤ x.c ∧ x.c ≤ 248 ∧ 0 ≤ x.b ∧ x.b ≤ 248 - x.c ∧ 0 ≤ x.d ∧ x.d ≤ x.c)
def Q.mayK (x : Q) : Bool := decide (2 ≤ x.a ∧ x.a < 4096 ∧ 1 ≤ x.b ∧ x.b ≤ x.c ∧ x.c ≤ 1048576 ∧ 0 ≤ x.d ∧ x.d ≤ x.c)
def Q.encP (x : Q) : List UInt8 := be 4 x.a.toNat ++ be 2 x.b.toNat ++ be 2 x.c.toNat ++ be 2 x.d.toNat ++ be 2 0
def Q.encK (x : Q) : List UInt8 := be 4 x.a.toNat ++ be 4 x.b.toNat ++ be 8 x.c.toNat ++ be 4 x.d.toNat
def decP (b : List UInt8) : Q := ⟨(get b 0 4).1, (get b 4 2).1, (get b 6 2).1, (get b 8 2).1⟩
def decK (b : List UInt8) : Q := ⟨(get b 0 4).1, (get b 4 4).1, (get b 8 8).1, (get b 16 4).1⟩
def okP (b : List UInt8) : Bool := (decP b).mayP && decide ((get b 10 2).1 = 0)
def okK (b : List UInt8) : Bool := (decK b).mayK
theorem Q.encP_length (x : Q) : x.encP.length = 12 := by simp [Q.encP, be_length]
theorem Q.encK_length (x : Q) : x.encK.length = 20 := by simp [Q.encK, be_length]
theorem Q.mayP_iff (x : Q) : x.mayP = true ↔ (2 ≤ x.a ∧ x.a < 4096 ∧ 1 ≤ x.c ∧ x.c ≤ 248 ∧ 0 ≤ x.b ∧ x.b ≤ 248 - x.c ∧ 0 ≤ x.d ∧ x.d ≤ x.c) := by simp [Q.mayP]
theorem Q.mayK_iff (x : Q) : x.mayK = true ↔ (2 ≤ x.a ∧ x.a < 4096 ∧ 1 ≤ x.b ∧ x.b ≤ x.c ∧ x.c ≤ 1048576 ∧ 0 ≤ x.d ∧ x.d ≤ x.c) := by simp [Q.mayK]

theorem decP_enc (x : Q) (h : x.mayP = true) (z : List UInt8) : decP (x.encP ++ z) = x ∧ (get (x.encP ++ z) 10 2).1 = 0 := by
  have hm := x.mayP_iff.1 h
  have la := be_length 4 x.a.toNat
  have lb := be_length 2 x.b.toNat
  have lc := be_length 2 x.c.toNat
  have ld := be_length 2 x.d.toNat
  unfold decP Q.encP
  have c0 := get_at (be 4 x.a.toNat ++ be 2 x.b.toNat ++ be 2 x.c.toNat ++ be 2 x.d.toNat ++ be 2 0 ++ z) [] (be 4 x.a.toNat) _ x.a 0 4 (by simp only [List.append_assoc, List.nil_append]; rfl) (by simp) (by omega) (by omega) (by omega) (by omega) (by omega) rfl
  have c1 := get_at (be 4 x.a.toNat ++ be 2 x.b.toNat ++ be 2 x.c.toNat ++ be 2 x.d.toNat ++ be 2 0 ++ z) (be 4 x.a.toNat) (be 2 x.b.toNat) _ x.b 4 2 (by simp only [List.append_assoc]; rfl) (by first | (simp only [List.length_append]; omega) | omega) (by omega) (by omega) (by omega) (by omega) (by omega) rfl
  have c2 := get_at (be 4 x.a.toNat ++ be 2 x.b.toNat ++ be 2 x.c.toNat ++ be 2 x.d.toNat ++ be 2 0 ++ z) (be 4 x.a.toNat ++ be 2 x.b.toNat) (be 2 x.c.toNat) _ x.c 6 2 (by simp only [List.append_assoc]; rfl) (by first | (simp only [List.length_append]; omega) | omega) (by omega) (by omega) (by omega) (by omega) (by omega) rfl
  have c3 := get_at (be 4 x.a.toNat ++ be 2 x.b.toNat ++ be 2 x.c.toNat ++ be 2 x.d.toNat ++ be 2 0 ++ z) (be 4 x.a.toNat ++ be 2 x.b.toNat ++ be 2 x.c.toNat) (be 2 x.d.toNat) _ x.d 8 2 (by simp only [List.append_assoc]; rfl) (by first | (simp only [List.length_append]; omega) | omega) (by omega) (by omega) (by omega) (by omega) (by omega) rfl
  have c4 := get_at (be 4 x.a.toNat ++ be 2 x.b.toNat ++ be 2 x.c.toNat ++ be 2 x.d.toNat ++ be 2 0 ++ z) (be 4 x.a.toNat ++ be 2 x.b.toNat ++ be 2 x.c.toNat ++ be 2 x.d.toNat) (be 2 0) _ 0 10 2 (by simp only [List.append_assoc]; rfl) (by first | (simp only [List.length_append]; omega) | omega) (by omega) (by omega) (by omega) (by omega) (by omega) rfl
  simp only [Int.cast_ofNat_Int] at c1 c2 c3 c4
  rw [c1, c2, c3, c4]
  have c0' : (get (be 4 x.a.toNat ++ be 2 x.b.toNat ++ be 2 x.c.toNat ++ be 2 x.d.toNat ++ be 2 0 ++ z) 0 4).1 = x.a := c0
  rw [c0']
  exact ⟨rfl, rfl⟩
theorem decK_enc (x : Q) (h : x.mayK = true) (z : List UInt8) : decK (x.encK ++ z) = x := by
  have hm := x.mayK_iff.1 h
  have la := be_length 4 x.a.toNat
  have lb := be_length 4 x.b.toNat
  have lc := be_length 8 x.c.toNat
  have ld := be_length 4 x.d.toNat
  unfold decK Q.encK
  have c0 := get_at (be 4 x.a.toNat ++ be 4 x.b.toNat ++ be 8 x.c.toNat ++ be 4 x.d.toNat ++ z) [] (be 4 x.a.toNat) _ x.a 0 4 (by simp only [List.append_assoc, List.nil_append]; rfl) (by simp) (by omega) (by omega) (by omega) (by omega) (by omega) rfl
  have c1 := get_at (be 4 x.a.toNat ++ be 4 x.b.toNat ++ be 8 x.c.toNat ++ be 4 x.d.toNat ++ z) (be 4 x.a.toNat) (be 4 x.b.toNat) _ x.b 4 4 (by simp only [List.append_assoc]; rfl) (by first | (simp only [List.length_append]; omega) | omega) (by omega) (by omega) (by omega) (by omega) (by omega) rfl
  have c2 := get_at (be 4 x.a.toNat ++ be 4 x.b.toNat ++ be 8 x.c.toNat ++ be 4 x.d.toNat ++ z) (be 4 x.a.toNat ++ be 4 x.b.toNat) (be 8 x.c.toNat) _ x.c 8 8 (by simp only [List.append_assoc]; rfl) (by first | (simp only [List.length_append]; omega) | omega) (by omega) (by omega) (by omega) (by omega) (by omega) rfl
  have c3 := get_at (be 4 x.a.toNat ++ be 4 x.b.toNat ++ be 8 x.c.toNat ++ be 4 x.d.toNat ++ z) (be 4 x.a.toNat ++ be 4 x.b.toNat ++ be 8 x.c.toNat) (be 4 x.d.toNat) _ x.d 16 4 (by simp only [List.append_assoc]; rfl) (by first | (simp only [List.length_append]; omega) | omega) (by omega) (by omega) (by omega) (by omega) (by omega) rfl
  simp only [Int.cast_ofNat_Int] at c1 c2 c3
  rw [c1, c2, c3]
  have c0' : (get (be 4 x.a.toNat ++ be 4 x.b.toNat ++ be 8 x.c.toNat ++ be 4 x.d.toNat ++ z) 0 4).1 = x.a := c0
  rw [c0']

/-- The cells' bytes; the cells of a body. -/
def encAll (enc : Q → List UInt8) (l : List Q) : List UInt8 := (l.map enc).flatten
def chunk (sz : Nat) (body : List UInt8) (i : Nat) : List UInt8 := (body.drop (sz * i)).take sz
def cellsOf (dec : List UInt8 → Q) (sz : Nat) (body : List UInt8) (n : Nat) : List Q := (List.range n).map fun i => dec (chunk sz body i)
theorem encAll_snoc (enc : Q → List UInt8) (l : List Q) (x : Q) : encAll enc (l ++ [x]) = encAll enc l ++ enc x := by simp [encAll]
theorem encAll_length (enc : Q → List UInt8) (sz : Nat) (he : ∀ x, (enc x).length = sz) (l : List Q) : (encAll enc l).length = sz * l.length := by
  induction l with
  | nil => simp [encAll]
  | cons x l ih => simp only [encAll, List.map_cons, List.flatten_cons, List.length_append, he, List.length_cons] at ih ⊢; rw [ih, Nat.mul_add]; omega
theorem cellsOf_snoc (dec : List UInt8 → Q) (sz : Nat) (body : List UInt8) (n : Nat) : cellsOf dec sz body (n + 1) = cellsOf dec sz body n ++ [dec (chunk sz body n)] := by simp [cellsOf, List.range_succ]
theorem cellsOf_length (dec : List UInt8 → Q) (sz : Nat) (body : List UInt8) (n : Nat) : (cellsOf dec sz body n).length = n := by simp [cellsOf]
theorem chunk_enc (enc : Q → List UInt8) (sz : Nat) (he : ∀ x, (enc x).length = sz) (l : List Q) (z : List UInt8) (i : Nat) (hi : i < l.length) : chunk sz (encAll enc l ++ z) i = enc l[i] := by
  induction l generalizing i with
  | nil => simp at hi
  | cons x l ih =>
    cases i with
    | zero => simp [chunk, encAll, List.take_append_of_le_length (show sz ≤ (enc x).length by rw [he]; omega), List.take_of_length_le (show (enc x).length ≤ sz by rw [he]; omega)]
    | succ i =>
      have h := ih i (by simpa using hi)
      have e : encAll enc (x :: l) ++ z = enc x ++ (encAll enc l ++ z) := by simp [encAll]
      rw [e]
      unfold chunk at h ⊢
      rw [show sz * (i + 1) = (enc x).length + sz * i by rw [he, Nat.mul_add]; omega, ← List.drop_drop, List.drop_left]
      simpa using h
theorem cellsOf_enc (dec : List UInt8 → Q) (enc : Q → List UInt8) (sz : Nat) (he : ∀ x, (enc x).length = sz) (l : List Q) (hd : ∀ x ∈ l, dec (enc x) = x) (z : List UInt8) :
    cellsOf dec sz (encAll enc l ++ z) l.length = l := by
  apply List.ext_getElem (by simp [cellsOf])
  intro i h1 h2
  simp only [cellsOf, List.getElem_map, List.getElem_range]
  rw [chunk_enc enc sz he l z i h2]
  exact hd _ (List.getElem_mem h2)
theorem take_chunk (sz : Nat) (body : List UInt8) (n : Nat) : body.take (sz * (n + 1)) = body.take (sz * n) ++ chunk sz body n := by
  unfold chunk
  rw [Nat.mul_add, Nat.mul_one, List.take_add]
theorem encAll_cells (dec : List UInt8 → Q) (enc : Q → List UInt8) (sz : Nat) (body : List UInt8) (n : Nat) (h : ∀ i, i < n → enc (dec (chunk sz body i)) = chunk sz body i) :
    encAll enc (cellsOf dec sz body n) = body.take (sz * n) := by
  induction n with
  | zero => simp [cellsOf, encAll]
  | succ n ih => rw [cellsOf_snoc, encAll_snoc, ih (fun i hi => h i (by omega)), h n (by omega), take_chunk]
end Go.Proofs.YtnjpaanjgbfbaaaGreat.P
/- Pages of cells. Plain law. -/
namespace Go.Proofs.YtnjpaanjgbfbaaaGreat.P
/-- What a page of cells may be. -/
def leafErr (l : List Q) : Int := if 1 ≤ l.length ∧ l.length ≤ 20 ∧ l.all Q.mayP = true then 0 else 1
def leafB (l : List Q) : List UInt8 := if leafErr l = 0 then page 3 0 l.length (encAll Q.encP l) else []
def innErr (v : Int) (l : List Q) : Int := if 1 ≤ v ∧ v ≤ 32 ∧ 1 ≤ l.length ∧ l.length ≤ 12 ∧ l.all Q.mayK = true then 0 else 1
def innB (v : Int) (l : List Q) : List UInt8 := if innErr v l = 0 then page 2 v.toNat l.length (encAll Q.encK l) else []
def txtErr (t : List UInt8) : Int := if 1 ≤ t.length ∧ t.length ≤ 248 then 0 else 1
def txtB (t : List UInt8) : List UInt8 := if txtErr t = 0 then page 4 0 t.length t else []
/-- What the bytes of a page say. -/
def zeros (l : List UInt8) : Bool := l.all (· == 0)
def goodP (b : List UInt8) : Prop := openKind b = 3 ∧ openLevel b = 0 ∧ 1 ≤ openCount b ∧ openCount b ≤ 20 ∧ zeros ((openBody b).drop (12 * openCount b)) = true ∧ ∀ i, i < openCount b → okP (chunk 12 (openBody b) i) = true
def goodK (b : List UInt8) : Prop := openKind b = 2 ∧ 1 ≤ openLevel b ∧ openLevel b ≤ 32 ∧ 1 ≤ openCount b ∧ openCount b ≤ 12 ∧ zeros ((openBody b).drop (20 * openCount b)) = true ∧ ∀ i, i < openCount b → okK (chunk 20 (openBody b) i) = true
def goodT (b : List UInt8) : Prop := openKind b = 4 ∧ openLevel b = 0 ∧ 1 ≤ openCount b ∧ openCount b ≤ 248 ∧ zeros ((openBody b).drop (openCount b)) = true
instance (b : List UInt8) : Decidable (goodP b) := by unfold goodP; infer_instance
instance (b : List UInt8) : Decidable (goodK b) := by unfold goodK; infer_instance
instance (b : List UInt8) : Decidable (goodT b) := by unfold goodT; infer_instance
def pcErr (b : List UInt8) : Int := if openErr b ≠ 0 then openErr b else if goodP b then 0 else 4
def pcL (b : List UInt8) : List Q := if pcErr b = 0 then cellsOf decP 12 (openBody b) (openCount b) else []
def kdErr (b : List UInt8) : Int := if openErr b ≠ 0 then openErr b else if goodK b then 0 else 4
def kdL (b : List UInt8) : List Q := if kdErr b = 0 then cellsOf decK 20 (openBody b) (openCount b) else []
def kdV (b : List UInt8) : Int := if kdErr b = 0 then openLevel b else 0
def txErr (b : List UInt8) : Int := if openErr b ≠ 0 then openErr b else if goodT b then 0 else 4
def txL (b : List UInt8) : List UInt8 := if txErr b = 0 then (openBody b).take (openCount b) else []
theorem seal_leaf (l : List Q) (h : leafErr l = 0) : sealErr 3 0 l.length (encAll Q.encP l).length = 0 := by
  have hl : 1 ≤ l.length ∧ l.length ≤ 20 ∧ l.all Q.mayP = true := by
    unfold leafErr at h
    split at h
    · assumption
    · omega
  rw [encAll_length _ 12 Q.encP_length]
  unfold sealErr
  rw [if_neg (by omega), if_neg (by omega)]
theorem seal_inn (v : Int) (l : List Q) (h : innErr v l = 0) : sealErr 2 v l.length (encAll Q.encK l).length = 0 := by
  have hl : 1 ≤ v ∧ v ≤ 32 ∧ 1 ≤ l.length ∧ l.length ≤ 12 ∧ l.all Q.mayK = true := by
    unfold innErr at h
    split at h
    · assumption
    · omega
  rw [encAll_length _ 20 Q.encK_length]
  unfold sealErr
  rw [if_neg (by omega), if_neg (by omega)]
theorem seal_txt (t : List UInt8) (h : txtErr t = 0) : sealErr 4 0 t.length t.length = 0 := by
  have hl : 1 ≤ t.length ∧ t.length ≤ 248 := by
    unfold txtErr at h
    split at h
    · assumption
    · omega
  unfold sealErr
  rw [if_neg (by omega), if_neg (by omega)]
theorem zeros_rep (n : Nat) : zeros (List.replicate n 0) = true := by simp [zeros]

theorem leaf_back (l : List Q) (h : leafErr l = 0) : pcErr (leafB l) = 0 ∧ pcL (leafB l) = l := by
  have hs := seal_leaf l h
  have hl : 1 ≤ l.length ∧ l.length ≤ 20 ∧ l.all Q.mayP = true := by
    unfold leafErr at h
    split at h
    · assumption
    · omega
  obtain ⟨o1, o2, o3, o4, o5⟩ := page_open hs
  have hlen := encAll_length _ 12 Q.encP_length l
  simp only [Int.toNat_natCast] at o1 o2 o3 o4 o5
  have hB : leafB l = page (Int.toNat 3) (Int.toNat 0) l.length (encAll Q.encP l) := by unfold leafB; rw [if_pos h]; rfl
  rw [hB]
  have hmay : ∀ x ∈ l, x.mayP = true := by simpa using hl.2.2
  have hg : goodP (page (Int.toNat 3) (Int.toNat 0) l.length (encAll Q.encP l)) := by
    unfold goodP
    rw [o2, o3, o4, o5]
    refine ⟨rfl, rfl, by omega, by omega, ?_, fun i hi => ?_⟩
    · rw [← hlen, List.drop_left]; exact zeros_rep _
    · rw [chunk_enc _ 12 Q.encP_length l _ i hi]
      have hd := decP_enc l[i] (hmay _ (List.getElem_mem hi)) []
      rw [List.append_nil] at hd
      unfold okP
      rw [hd.1, hmay _ (List.getElem_mem hi), hd.2]
      rfl
  have he : pcErr (page (Int.toNat 3) (Int.toNat 0) l.length (encAll Q.encP l)) = 0 := by
    unfold pcErr
    rw [if_neg (by simpa using o1), if_pos hg]
  refine ⟨he, ?_⟩
  unfold pcL
  rw [if_pos he, o4, o5]
  exact cellsOf_enc decP Q.encP 12 Q.encP_length l (fun x hx => by have := decP_enc x (hmay x hx) []; rw [List.append_nil] at this; exact this.1) _
theorem inn_back (v : Int) (l : List Q) (h : innErr v l = 0) : kdErr (innB v l) = 0 ∧ kdL (innB v l) = l ∧ kdV (innB v l) = v := by
  have hs := seal_inn v l h
  have hl : 1 ≤ v ∧ v ≤ 32 ∧ 1 ≤ l.length ∧ l.length ≤ 12 ∧ l.all Q.mayK = true := by
    unfold innErr at h
    split at h
    · assumption
    · omega
  obtain ⟨o1, o2, o3, o4, o5⟩ := page_open hs
  have hlen := encAll_length _ 20 Q.encK_length l
  simp only [Int.toNat_natCast] at o1 o2 o3 o4 o5
  have hB : innB v l = page (Int.toNat 2) v.toNat l.length (encAll Q.encK l) := by unfold innB; rw [if_pos h]; rfl
  rw [hB]
  have hmay : ∀ x ∈ l, x.mayK = true := by simpa using hl.2.2.2.2
  have hg : goodK (page (Int.toNat 2) v.toNat l.length (encAll Q.encK l)) := by
    unfold goodK
    rw [o2, o3, o4, o5]
    refine ⟨rfl, by omega, by omega, by omega, by omega, ?_, fun i hi => ?_⟩
    · rw [← hlen, List.drop_left]; exact zeros_rep _
    · rw [chunk_enc _ 20 Q.encK_length l _ i hi]
      have hd := decK_enc l[i] (hmay _ (List.getElem_mem hi)) []
      rw [List.append_nil] at hd
      unfold okK
      rw [hd, hmay _ (List.getElem_mem hi)]
  have he : kdErr (page (Int.toNat 2) v.toNat l.length (encAll Q.encK l)) = 0 := by
    unfold kdErr
    rw [if_neg (by simpa using o1), if_pos hg]
  refine ⟨he, ?_, ?_⟩
  · unfold kdL
    rw [if_pos he, o4, o5]
    exact cellsOf_enc decK Q.encK 20 Q.encK_length l (fun x hx => by have := decK_enc x (hmay x hx) []; rw [List.append_nil] at this; exact this) _
  · unfold kdV
    rw [if_pos he, o3]
    omega
theorem txt_back (t : List UInt8) (h : txtErr t = 0) : txErr (txtB t) = 0 ∧ txL (txtB t) = t := by
  have hs := seal_txt t h
  have hl : 1 ≤ t.length ∧ t.length ≤ 248 := by
    unfold txtErr at h
    split at h
    · assumption
    · omega
  obtain ⟨o1, o2, o3, o4, o5⟩ := page_open hs
  simp only [Int.toNat_natCast] at o1 o2 o3 o4 o5
  have hB : txtB t = page (Int.toNat 4) (Int.toNat 0) t.length t := by unfold txtB; rw [if_pos h]; rfl
  rw [hB]
  have hg : goodT (page (Int.toNat 4) (Int.toNat 0) t.length t) := by
    unfold goodT
    rw [o2, o3, o4, o5]
    exact ⟨rfl, rfl, by omega, by omega, by rw [List.drop_left]; exact zeros_rep _⟩
  have he : txErr (page (Int.toNat 4) (Int.toNat 0) t.length t) = 0 := by
    unfold txErr
    rw [if_neg (by simpa using o1), if_pos hg]
  refine ⟨he, ?_⟩
  unfold txL
  rw [if_pos he, o4, o5, List.take_left]
end Go.Proofs.YtnjpaanjgbfbaaaGreat.P
/- What a page of cells tells, made again, is that page. Plain law. -/
namespace Go.Proofs.YtnjpaanjgbfbaaaGreat.P
theorem be_get (b : List UInt8) (at_ n : Nat) (h1 : 1 ≤ n) (h2 : n ≤ 8) (h : at_ + n ≤ b.length) (hf : (get b (at_ : Nat) (n : Nat)).2 = true) : be n (get b (at_ : Nat) (n : Nat)).1.toNat = slice b at_ n := by
  have hl : lies b.length (at_ : Nat) (n : Nat) = true := by simp [lies]; omega
  have hlen : (slice b at_ n).length = n := by simp [slice]; omega
  have hb := be_num (slice b at_ n)
  rw [hlen] at hb
  unfold get at hf ⊢
  rw [if_pos hl] at hf ⊢
  simp only [Int.toNat_natCast] at hf ⊢
  by_cases hq : 4611686018427387904 < num (slice b at_ n)
  · rw [if_pos hq] at hf; cases hf
  · rw [if_neg hq]
    simpa using hb
theorem get_fit (b : List UInt8) (at_ n : Nat) (h1 : 1 ≤ n) (h7 : n ≤ 7) (h : at_ + n ≤ b.length) : (get b (at_ : Nat) (n : Nat)).2 = true := by
  have hl : lies b.length (at_ : Nat) (n : Nat) = true := by simp [lies]; omega
  unfold get
  rw [if_pos hl]
  simp only [Int.toNat_natCast]
  have hlen : (slice b at_ n).length = n := by simp [slice]; omega
  have hlt := num_lt (slice b at_ n)
  rw [hlen] at hlt
  have : 256 ^ n ≤ 256 ^ 7 := Nat.pow_le_pow_right (by omega) h7
  rw [if_neg (by omega)]
theorem get_unf (b : List UInt8) (at_ n : Int) (h : (get b at_ n).2 = false) : (get b at_ n).1 = 0 := by
  unfold get at *
  by_cases h1 : lies b.length at_ n = true
  · rw [if_pos h1] at h ⊢
    simp only at h ⊢
    by_cases h2 : 4611686018427387904 < num (slice b at_.toNat n.toNat)
    · rw [if_pos h2]
    · rw [if_neg h2] at h; cases h
  · rw [if_neg h1]
theorem slice_app (b : List UInt8) (i m n : Nat) : slice b i m ++ slice b (i + m) n = slice b i (m + n) := by
  unfold slice
  rw [List.take_add, List.drop_drop]
theorem slice_all (b : List UInt8) (n : Nat) (h : b.length = n) : slice b 0 n = b := by simp [slice, ← h]
theorem encP_dec (b : List UInt8) (hl : b.length = 12) (h : okP b = true) : (decP b).encP = b := by
  simp only [okP, Bool.and_eq_true, decide_eq_true_eq] at h
  have e0 := be_get b 0 4 (by omega) (by omega) (by omega) (get_fit b 0 4 (by omega) (by omega) (by omega))
  have e1 := be_get b 4 2 (by omega) (by omega) (by omega) (get_fit b 4 2 (by omega) (by omega) (by omega))
  have e2 := be_get b 6 2 (by omega) (by omega) (by omega) (get_fit b 6 2 (by omega) (by omega) (by omega))
  have e3 := be_get b 8 2 (by omega) (by omega) (by omega) (get_fit b 8 2 (by omega) (by omega) (by omega))
  have e4 := be_get b 10 2 (by omega) (by omega) (by omega) (get_fit b 10 2 (by omega) (by omega) (by omega))
  simp only [Int.cast_ofNat_Int] at e1 e2 e3 e4
  have e0' : be 4 (get b 0 4).1.toNat = slice b 0 4 := e0
  rw [h.2] at e4
  unfold Q.encP decP
  have e4' : be 2 0 = slice b 10 2 := e4
  simp only [e0', e1, e2, e3, e4']
  rw [slice_app b 0 4 2, slice_app b 0 6 2, slice_app b 0 8 2, slice_app b 0 10 2]
  exact slice_all b 12 hl
theorem encK_dec (b : List UInt8) (hl : b.length = 20) (h : okK b = true) : (decK b).encK = b := by
  have hm := (decK b).mayK_iff.1 h
  have hf : (get b 8 8).2 = true := by
    rcases hq : (get b 8 8).2 with _ | _
    · have := get_unf b 8 8 hq
      have hc : (decK b).c = (get b 8 8).1 := rfl
      omega
    · rfl
  have e0 := be_get b 0 4 (by omega) (by omega) (by omega) (get_fit b 0 4 (by omega) (by omega) (by omega))
  have e1 := be_get b 4 4 (by omega) (by omega) (by omega) (get_fit b 4 4 (by omega) (by omega) (by omega))
  have e2 := be_get b 8 8 (by omega) (by omega) (by omega) hf
  have e3 := be_get b 16 4 (by omega) (by omega) (by omega) (get_fit b 16 4 (by omega) (by omega) (by omega))
  simp only [Int.cast_ofNat_Int] at e1 e2 e3
  have e0' : be 4 (get b 0 4).1.toNat = slice b 0 4 := e0
  unfold Q.encK decK
  simp only [e0', e1, e2, e3]
  rw [slice_app b 0 4 4, slice_app b 0 8 8, slice_app b 0 16 4]
  exact slice_all b 20 hl
/-- A page is the same with noughts of its body left out. -/
theorem page_cut (k l c : Nat) (body : List UInt8) (n : Nat) (hl : body.length = 248) (hn : n ≤ 248) (hz : zeros (body.drop n) = true) : page k l c (body.take n) = page k l c body := by
  have ht : tail k l c (body.take n) = tail k l c body := by
    unfold tail
    have hr : body.drop n = List.replicate (248 - n) 0 := by
      have := List.eq_replicate_of_mem (l := body.drop n) (a := 0) (fun x hx => by simpa using List.all_eq_true.1 hz x hx)
      rw [this]
      simp [hl]
    have he : body.take n ++ List.replicate (248 - n) 0 = body := by rw [← hr, List.take_append_drop]
    have hlt : (body.take n).length = n := by simp; omega
    rw [hlt, hl, List.append_assoc, he]
    simp
  unfold page
  rw [ht]
theorem chunk_length (sz : Nat) (body : List UInt8) (n i : Nat) (hi : i < n) (hb : sz * n ≤ body.length) : (chunk sz body i).length = sz := by
  have : sz * (i + 1) ≤ sz * n := Nat.mul_le_mul_left _ (by omega)
  rw [Nat.mul_add] at this
  simp [chunk]
  omega
theorem again (k v c : Int) (b : List UInt8) (n : Nat) (h : openErr b = 0) (hk : (openKind b : Int) = k) (hv : (openLevel b : Int) = v) (hc : (openCount b : Int) = c) (hn : n ≤ 248) (hz : zeros ((openBody b).drop n) = true) :
    page k.toNat v.toNat c.toNat ((openBody b).take n) = b := by
  obtain ⟨s1, s2⟩ := seal_open b h
  have e1 : oK b = k := by simp [oK, h, hk]
  have e2 : oL b = v := by simp [oL, h, hv]
  have e3 : oC b = c := by simp [oC, h, hc]
  have e4 : oB b = openBody b := by simp [oB, h]
  rw [e1, e2, e3, e4] at s1 s2
  unfold sealB at s2
  rw [if_pos s1] at s2
  have hb : (openBody b).length = 248 := by have := openErr_len b h; simp [openBody]; omega
  rw [page_cut _ _ _ _ n hb hn hz, s2]
theorem pcErr_zero {b : List UInt8} (h : pcErr b = 0) : openErr b = 0 ∧ goodP b := by
  unfold pcErr at h
  by_cases h1 : openErr b = 0
  · rw [if_neg (by simpa using h1)] at h
    by_cases h2 : goodP b
    · exact ⟨h1, h2⟩
    · rw [if_neg h2] at h; omega
  · rw [if_pos (by simpa using h1)] at h; exact absurd h h1
theorem kdErr_zero {b : List UInt8} (h : kdErr b = 0) : openErr b = 0 ∧ goodK b := by
  unfold kdErr at h
  by_cases h1 : openErr b = 0
  · rw [if_neg (by simpa using h1)] at h
    by_cases h2 : goodK b
    · exact ⟨h1, h2⟩
    · rw [if_neg h2] at h; omega
  · rw [if_pos (by simpa using h1)] at h; exact absurd h h1
theorem txErr_zero {b : List UInt8} (h : txErr b = 0) : openErr b = 0 ∧ goodT b := by
  unfold txErr at h
  by_cases h1 : openErr b = 0
  · rw [if_neg (by simpa using h1)] at h
    by_cases h2 : goodT b
    · exact ⟨h1, h2⟩
    · rw [if_neg h2] at h; omega
  · rw [if_pos (by simpa using h1)] at h; exact absurd h h1
theorem leaf_again (b : List UInt8) (h : pcErr b = 0) : leafErr (pcL b) = 0 ∧ leafB (pcL b) = b := by
  obtain ⟨h1, g1, g2, g3, g4, g5, g6⟩ := pcErr_zero h
  have hb : (openBody b).length = 248 := by have := openErr_len b h1; simp [openBody]; omega
  have hl : pcL b = cellsOf decP 12 (openBody b) (openCount b) := by unfold pcL; rw [if_pos h]
  have he : leafErr (pcL b) = 0 := by
    unfold leafErr
    rw [hl, if_pos]
    refine ⟨by rw [cellsOf_length]; exact g3, by rw [cellsOf_length]; exact g4, ?_⟩
    rw [List.all_eq_true]
    intro x hx
    simp only [cellsOf, List.mem_map, List.mem_range] at hx
    obtain ⟨i, hi, rfl⟩ := hx
    have := g6 i hi
    simp only [okP, Bool.and_eq_true] at this
    exact this.1
  refine ⟨he, ?_⟩
  unfold leafB
  rw [if_pos he, hl, cellsOf_length, encAll_cells decP Q.encP 12 _ _ (fun i hi => encP_dec _ (chunk_length 12 _ _ i hi (by omega)) (g6 i hi))]
  have := again 3 0 (openCount b) b (12 * openCount b) h1 (by omega) (by omega) rfl (by omega) g5
  simpa using this
theorem inn_again (b : List UInt8) (h : kdErr b = 0) : innErr (kdV b) (kdL b) = 0 ∧ innB (kdV b) (kdL b) = b := by
  obtain ⟨h1, g1, g2, g2', g3, g4, g5, g6⟩ := kdErr_zero h
  have hb : (openBody b).length = 248 := by have := openErr_len b h1; simp [openBody]; omega
  have hl : kdL b = cellsOf decK 20 (openBody b) (openCount b) := by unfold kdL; rw [if_pos h]
  have hv : kdV b = openLevel b := by unfold kdV; rw [if_pos h]
  have he : innErr (kdV b) (kdL b) = 0 := by
    unfold innErr
    rw [hl, hv, if_pos]
    refine ⟨by omega, by omega, by rw [cellsOf_length]; exact g3, by rw [cellsOf_length]; exact g4, ?_⟩
    rw [List.all_eq_true]
    intro x hx
    simp only [cellsOf, List.mem_map, List.mem_range] at hx
    obtain ⟨i, hi, rfl⟩ := hx
    exact g6 i hi
  refine ⟨he, ?_⟩
  unfold innB
  rw [if_pos he, hl, hv, cellsOf_length, encAll_cells decK Q.encK 20 _ _ (fun i hi => encK_dec _ (chunk_length 20 _ _ i hi (by omega)) (g6 i hi))]
  have := again 2 (openLevel b) (openCount b) b (20 * openCount b) h1 (by omega) rfl rfl (by omega) g5
  simpa using this
end Go.Proofs.YtnjpaanjgbfbaaaGreat.P
/- Cells, as the reference reads them: from where they stand on. Plain law. -/
namespace Go.Proofs.YtnjpaanjgbfbaaaGreat.P
theorem get_take (l : List UInt8) (n at_ m : Nat) (h : at_ + m ≤ n) (hn : n ≤ l.length) : get (l.take n) (at_ : Nat) (m : Nat) = get l (at_ : Nat) (m : Nat) := by
  have hs : slice (l.take n) at_ m = slice l at_ m := by
    unfold slice
    rw [List.drop_take, List.take_take]
    congr 1
    omega
  have hl : lies (l.take n).length (at_ : Nat) (m : Nat) = lies l.length (at_ : Nat) (m : Nat) := by
    unfold lies
    rw [List.length_take, Nat.min_eq_left hn]
    apply decide_eq_decide.2
    omega
  unfold get
  rw [hl]
  simp only [Int.toNat_natCast, hs]
theorem decP_take (l : List UInt8) (h : 12 ≤ l.length) : decP (l.take 12) = decP l := by
  unfold decP
  have e0 := get_take l 12 0 4 (by omega) h
  have e1 := get_take l 12 4 2 (by omega) h
  have e2 := get_take l 12 6 2 (by omega) h
  have e3 := get_take l 12 8 2 (by omega) h
  simp only [Int.cast_ofNat_Int] at e1 e2 e3
  rw [show get (l.take 12) 0 4 = get l 0 4 from e0, e1, e2, e3]
theorem decK_take (l : List UInt8) (h : 20 ≤ l.length) : decK (l.take 20) = decK l := by
  unfold decK
  have e0 := get_take l 20 0 4 (by omega) h
  have e1 := get_take l 20 4 4 (by omega) h
  have e2 := get_take l 20 8 8 (by omega) h
  have e3 := get_take l 20 16 4 (by omega) h
  simp only [Int.cast_ofNat_Int] at e1 e2 e3
  rw [show get (l.take 20) 0 4 = get l 0 4 from e0, e1, e2, e3]
theorem get_two0 (l : List UInt8) (h : 12 ≤ l.length) : (get l 10 2).1 = 0 ↔ l[10] = 0 ∧ l[11] = 0 := by
  have hf := get_fit l 10 2 (by omega) (by omega) (by omega)
  have hb : lies l.length ((10 : Nat) : Int) ((2 : Nat) : Int) = true := by simp [lies]; omega
  have e : slice l 10 2 = [l[10], l[11]] := by
    unfold slice
    rw [List.drop_eq_getElem_cons (show 10 < l.length by omega), List.drop_eq_getElem_cons (show 10 + 1 < l.length by omega)]
    rfl
  have hn : (get l ((10 : Nat) : Int) ((2 : Nat) : Int)).1 = ((l[10].toNat * 256 + l[11].toNat : Nat) : Int) := by
    have h1 := (l[10]).toNat_lt
    have h2 := (l[11]).toNat_lt
    unfold get
    rw [if_pos hb]
    simp only [Int.toNat_natCast, e, num, List.foldl_cons, List.foldl_nil, Nat.zero_mul, Nat.zero_add]
    rw [if_neg (by omega)]
  have hn' : (get l 10 2).1 = ((l[10].toNat * 256 + l[11].toNat : Nat) : Int) := hn
  rw [hn']
  constructor
  · intro h0
    exact ⟨UInt8.toNat_inj.1 (by simp; omega), UInt8.toNat_inj.1 (by simp; omega)⟩
  · rintro ⟨h1, h2⟩
    rw [h1, h2]
    rfl
theorem okP_take (l : List UInt8) (h : 12 ≤ l.length) : okP (l.take 12) = ((decP l).mayP && decide (l[10] = 0 ∧ l[11] = 0)) := by
  unfold okP
  rw [decP_take l h]
  congr 1
  have e := get_take l 12 10 2 (by omega) h
  simp only [Int.cast_ofNat_Int] at e
  rw [e]
  exact decide_eq_decide.2 (get_two0 l h)
theorem okK_take (l : List UInt8) (h : 20 ≤ l.length) : okK (l.take 20) = (decK l).mayK := by
  unfold okK
  rw [decK_take l h]
end Go.Proofs.YtnjpaanjgbfbaaaGreat.P
/- Chains: bytes on pages one behind the other. Plain law. -/
namespace Go.Proofs.YtnjpaanjgbfbaaaGreat.P
def needN (n : Nat) : Nat := (n + 243) / 244
def need (n : Int) : Int := if n < 1 then 0 else (n - 1) / 244 + 1
theorem need_nat (n : Nat) : need (n : Int) = (needN n : Nat) := by
  unfold need needN
  split <;> omega
def onI (p : Int) : Bool := decide (2 ≤ p ∧ p < 4096)
def fits (b : List UInt8) (l : List Int) : Bool := decide (l.length = needN b.length) && l.all onI && decide l.Nodup
def cutErr (b : List UInt8) (l : List Int) : Int := if fits b l = true then (if 1048576 < b.length then 3 else 0) else 1
def part (b : List UInt8) (i : Nat) : List UInt8 := (b.drop (244 * i)).take 244
def nextI (l : List Int) (i : Nat) : Int := l.getD (i + 1) 0
def cutBody (b : List UInt8) (l : List Int) (i : Nat) : List UInt8 := be 4 (nextI l i).toNat ++ part b i
def cutPage (b : List UInt8) (l : List Int) (i : Nat) : List UInt8 := page 5 0 (part b i).length (cutBody b l i)
def cutTo (b : List UInt8) (l : List Int) (n : Nat) : List (List UInt8) := (List.range n).map (cutPage b l)
def cutL (b : List UInt8) (l : List Int) : List (List UInt8) := if cutErr b l = 0 then cutTo b l l.length else []
def nxt (b : List UInt8) : Int := (get (openBody b) 0 4).1
def goodC (b : List UInt8) : Prop := openKind b = 5 ∧ openLevel b = 0 ∧ 1 ≤ openCount b ∧ openCount b ≤ 244 ∧ (nxt b = 0 ∨ 2 ≤ nxt b ∧ nxt b < 4096 ∧ openCount b = 244) ∧ zeros ((openBody b).drop (4 + openCount b)) = true
instance (b : List UInt8) : Decidable (goodC b) := by unfold goodC; infer_instance
def ptErr (b : List UInt8) : Int := if openErr b ≠ 0 then openErr b else if goodC b then 0 else 4
def ptL (b : List UInt8) : List UInt8 := if ptErr b = 0 then ((openBody b).drop 4).take (openCount b) else []
def ptN (b : List UInt8) : Int := if ptErr b = 0 then nxt b else 0
theorem part_len (b : List UInt8) (i : Nat) : (part b i).length = min 244 (b.length - 244 * i) := by simp [part]
theorem cutTo_succ (b : List UInt8) (l : List Int) (n : Nat) : cutTo b l (n + 1) = cutTo b l n ++ [cutPage b l n] := by simp [cutTo, List.range_succ]
theorem cutTo_length (b : List UInt8) (l : List Int) (n : Nat) : (cutTo b l n).length = n := by simp [cutTo]
theorem fits_iff (b : List UInt8) (l : List Int) : fits b l = true ↔ l.length = needN b.length ∧ (∀ p ∈ l, 2 ≤ p ∧ p < 4096) ∧ l.Nodup := by
  simp [fits, onI, and_assoc]
theorem seal_cut (b : List UInt8) (l : List Int) (i : Nat) (h : 1 ≤ (part b i).length) : sealErr 5 0 (part b i).length (cutBody b l i).length = 0 := by
  have hl := part_len b i
  have hb : (cutBody b l i).length = 4 + (part b i).length := by simp [cutBody, be_length]
  rw [hb]
  unfold sealErr
  rw [if_neg (by omega), if_neg (by omega)]
theorem nextI_ok (b : List UInt8) (l : List Int) (h : fits b l = true) (i : Nat) : nextI l i = 0 ∨ (2 ≤ nextI l i ∧ nextI l i < 4096 ∧ i + 1 < l.length) := by
  obtain ⟨-, h2, -⟩ := (fits_iff b l).1 h
  unfold nextI
  rcases Nat.lt_or_ge (i + 1) l.length with hi | hi
  · right
    have e : l.getD (i + 1) 0 = l[i + 1] := by simp [List.getD, hi]
    have := h2 l[i + 1] (List.getElem_mem _)
    rw [e]
    exact ⟨this.1, this.2, hi⟩
  · left
    simp [List.getD, List.getElem?_eq_none hi]
theorem cut_part (b : List UInt8) (l : List Int) (h : fits b l = true) (i : Nat) (hi : i < l.length) :
    ptErr (cutPage b l i) = 0 ∧ ptL (cutPage b l i) = part b i ∧ ptN (cutPage b l i) = nextI l i := by
  have hn := (fits_iff b l).1 h
  have hlen : l.length = (b.length + 243) / 244 := hn.1
  have hpl := part_len b i
  have h1 : 1 ≤ (part b i).length := by omega
  have hx := nextI_ok b l h i
  have hs := seal_cut b l i h1
  obtain ⟨o1, o2, o3, o4, o5⟩ := page_open hs
  simp only [Int.toNat_natCast] at o1 o2 o3 o4 o5
  have hB : cutPage b l i = page (Int.toNat 5) (Int.toNat 0) (part b i).length (cutBody b l i) := rfl
  rw [← hB] at o1 o2 o3 o4 o5
  generalize cutPage b l i = K at *
  have hbl : (be 4 (nextI l i).toNat).length = 4 := be_length _ _
  have hnx : nxt K = nextI l i := by
    unfold nxt
    rw [o5, cutBody, List.append_assoc]
    exact get_at _ [] (be 4 (nextI l i).toNat) _ (nextI l i) 0 4 (by simp only [List.nil_append]; rfl) rfl (by omega) (by omega) (by omega) (by omega) (by omega) rfl
  have hcl : (cutBody b l i).length = 4 + (part b i).length := by simp [cutBody, be_length]
  have hg : goodC K := by
    unfold goodC
    rw [o2, o3, o4, hnx, o5]
    refine ⟨rfl, rfl, h1, by omega, ?_, ?_⟩
    · rcases hx with h0 | ⟨h2, h3, h4⟩
      · exact .inl h0
      · exact .inr ⟨h2, h3, by omega⟩
    · rw [← hcl, List.drop_left]; exact zeros_rep _
  have he : ptErr K = 0 := by
    unfold ptErr
    rw [if_neg (by simpa using o1), if_pos hg]
  refine ⟨he, ?_, ?_⟩
  · unfold ptL
    rw [if_pos he, o4, o5, cutBody, List.append_assoc]
    rw [List.drop_append_of_le_length (by omega), List.drop_eq_nil_of_le (by omega), List.nil_append, List.take_left]
  · unfold ptN
    rw [if_pos he, hnx]
theorem ptErr_zero {b : List UInt8} (h : ptErr b = 0) : openErr b = 0 ∧ goodC b := by
  unfold ptErr at h
  by_cases h1 : openErr b = 0
  · rw [if_neg (by simpa using h1)] at h
    by_cases h2 : goodC b
    · exact ⟨h1, h2⟩
    · rw [if_neg h2] at h; omega
  · rw [if_pos (by simpa using h1)] at h; exact absurd h h1
end Go.Proofs.YtnjpaanjgbfbaaaGreat.P
/- Devices walked through: what is reached. Plain law: the walk. -/
namespace Go.Proofs.YtnjpaanjgbfbaaaGreat.P

/-- Page n of an image. -/
def pg (img : List UInt8) (n : Nat) : List UInt8 := (img.drop (256 * n)).take 256
/-- What was reached: of each page its kind (0: it was not); the pieces, their text. -/
structure St where
  met : Nat → Nat
  ps : List Q
  tx : List UInt8
def St.hit (st : St) (n k : Nat) : St := { st with met := fun m => if m = n then k else st.met m }
def St.new : St := ⟨fun _ => 0, [], []⟩
/-- What lies below a page. -/
structure Sm where
  p : Int
  b : Int
  l : Int
deriving DecidableEq
def Sm.add (x y : Sm) : Sm := ⟨x.p + y.p, x.b + y.b, x.l + y.l⟩
def nls (t : List UInt8) : Nat := t.count 10
def free? (np : Nat) (st : St) (n : Nat) : Bool := decide (st.met n = 0 ∧ 2 ≤ n ∧ n < np)
/-- May page n be a text page now? -/
def txAt (img : List UInt8) (np : Nat) (st : St) (n : Nat) : Option St :=
  if st.met n = 4 then some st else if free? np st n = true ∧ txErr (pg img n) = 0 then some (st.hit n 4) else none
def cutP (img : List UInt8) (p : Q) : List UInt8 := slice (txL (pg img p.a.toNat)) p.b.toNat p.c.toNat
/-- lim: no more than a text may have. -/
def piece (img : List UInt8) (np : Nat) (lim : Bool) (st : St) (p : Q) : Option St :=
  (txAt img np st p.a.toNat).bind fun s =>
    if p.b.toNat + p.c.toNat ≤ (txL (pg img p.a.toNat)).length ∧ (nls (cutP img p) : Int) = p.d ∧ (lim = true → (s.tx ++ cutP img p).length ≤ 1048576) then some { s with ps := s.ps ++ [p], tx := s.tx ++ cutP img p } else none
def smOf (l : List Q) : Sm := l.foldl (fun s p => s.add ⟨1, p.c, p.d⟩) ⟨0, 0, 0⟩
def leafW (img : List UInt8) (np : Nat) (lim : Bool) (n : Nat) (root : Bool) (st : St) : Option (Sm × St) :=
  if free? np st n = true ∧ pcErr (pg img n) = 0 ∧ (root = true ∨ 10 ≤ (pcL (pg img n)).length) then
    ((pcL (pg img n)).foldlM (piece img np lim) (st.hit n 3)).map fun s => (smOf (pcL (pg img n)), s)
  else none
def kidStep (f : Nat → Bool → St → Option (Sm × St)) (x : Sm × St) (k : Q) : Option (Sm × St) :=
  (f k.a.toNat false x.2).bind fun y => if y.1 = ⟨k.b, k.c, k.d⟩ then some (x.1.add y.1, y.2) else none
def below (img : List UInt8) (np : Nat) (lim : Bool) : Nat → Nat → Bool → St → Option (Sm × St)
  | 0, n, root, st => leafW img np lim n root st
  | lv + 1, n, root, st =>
    if free? np st n = true ∧ kdErr (pg img n) = 0 ∧ kdV (pg img n) = ((lv + 1 : Nat) : Int) ∧ 2 ≤ (kdL (pg img n)).length ∧ (root = true ∨ 6 ≤ (kdL (pg img n)).length) then
      (kdL (pg img n)).foldlM (kidStep (below img np lim lv)) (⟨0, 0, 0⟩, st.hit n 2)
    else none
def treeW (img : List UInt8) (np : Nat) (lim : Bool) (s : Sup) (st : St) : Option St :=
  if s.r = 0 then some st else
    (below img np lim (s.h.toNat - 1) s.r.toNat true st).bind fun x => if x.1.b = s.b ∧ x.1.l = s.l then some x.2 else none
/-- f: at most so many pages. -/
def chainW (img : List UInt8) (np : Nat) : Nat → Nat → List UInt8 → St → Option (List UInt8 × St)
  | _, 0, out, st => some (out, st)
  | 0, _ + 1, _, _ => none
  | f + 1, n + 1, out, st =>
    if free? np st (n + 1) = true ∧ ptErr (pg img (n + 1)) = 0 ∧ (out ++ ptL (pg img (n + 1))).length ≤ 1048576 then
      chainW img np f (ptN (pg img (n + 1))).toNat (out ++ ptL (pg img (n + 1))) (st.hit (n + 1) 5)
    else none
def bitAt (b : List UInt8) (i : Nat) : Bool := (b.getD (i / 8) 0).toNat / 2 ^ (i % 8) % 2 == 1
def freeOk (np : Nat) (b : List UInt8) (st : St) : Bool := decide (b.length = (np + 7) / 8) && (List.range (8 * b.length)).all fun i => bitAt b i == (decide (i < 2) || decide (0 < st.met i))
/-- What a walk tells. -/
structure Rep where
  ps : List Q
  tx : List UInt8
  state : List UInt8
  met : Nat → Nat
/-- How many pages were reached. -/
def cnt (np : Nat) (st : St) : Nat := ((List.range np).filter fun i => decide (0 < st.met i)).length
theorem cnt_le (np : Nat) (st : St) : cnt np st ≤ np := by
  have h := List.length_filter_le (fun i => decide (0 < st.met i)) (List.range np)
  rw [List.length_range] at h
  exact h
theorem filter_hit (m : Nat → Nat) (n k : Nat) (hk : 0 < k) (h0 : m n = 0) (np : Nat) :
    ((List.range np).filter fun i => decide (0 < if i = n then k else m i)).length = ((List.range np).filter fun i => decide (0 < m i)).length + (if n < np then 1 else 0) := by
  induction np with
  | zero => simp
  | succ np ih =>
    rw [List.range_succ, List.filter_append, List.filter_append, List.length_append, List.length_append, ih]
    by_cases he : np = n
    · subst he
      simp [hk, h0]
    · have e1 : ([np].filter fun i => decide (0 < if i = n then k else m i)) = [np].filter fun i => decide (0 < m i) := by
        simp only [List.filter_cons, List.filter_nil, he, if_false]
      rw [e1]
      by_cases hlt : n < np
      · rw [if_pos hlt, if_pos (by omega)]
        omega
      · rw [if_neg hlt, if_neg (by omega)]
        omega
theorem cnt_hit (np : Nat) (st : St) (n k : Nat) (hk : 0 < k) (h : free? np st n = true) : cnt np (st.hit n k) = cnt np st + 1 := by
  have h := of_decide_eq_true h
  have e := filter_hit st.met n k hk h.1 np
  rw [if_pos h.2.2] at e
  exact e
theorem free_lt {np : Nat} {st : St} {n : Nat} (h : free? np st n = true) : cnt np st < np := by
  have h1 := cnt_hit np st n 1 (by omega) h
  have h2 := cnt_le np (st.hit n 1)
  omega
end Go.Proofs.YtnjpaanjgbfbaaaGreat.P
/- The walks of chapter 8: may a piece, a kid be. -/
namespace Go.Proofs.YtnjpaanjgbfbaaaGreat
set_option linter.unusedVariables false
set_option linter.unusedSimpArgs false
open Go.RowKit

def qV (x : P.Q) : Value := .agg #[.int .i64 x.a, .int .i64 x.b, .int .i64 x.c, .int .i64 x.d]
def qC (x : P.Q) : List Value := [.int .i64 x.a, .int .i64 x.b, .int .i64 x.c, .int .i64 x.d]
def qCs (l : List P.Q) : List Value := (l.map qC).flatten
theorem ret_bool {b c : Bool} (h : b = c) : Ending.returned (.bool b) = .returned (.bool c) := by rw [h]
theorem con_any (n : Int) (w : World) : Calls Tryz.prog 110 #[.int .i64 n] w fun e w' => e = .returned (.bool (decide (2 ≤ n ∧ n < 4096))) ∧ w' = w := by
  go_enter Tryz.func110, Tryz.ntmps110
  by_cases h1 : 2 ≤ n <;> by_cases h2 : n < 4096
  all_goals
    go_wp2
    go_ret
    exact ⟨by simp [*], rfl⟩
set_option maxRecDepth 100000 in
set_option maxHeartbeats 1600000 in
theorem rmayP_any (x : P.Q) (w : World) : Calls Tryz.prog 50 #[qV x] w fun e w' => e = .returned (.bool x.mayP) ∧ Below w.heap.size w w' := by
  obtain ⟨a, b, c, d⟩ := x
  unfold qV P.Q.mayP
  simp only
  obtain ⟨M, hM⟩ : ∃ M, M = decide (2 ≤ a ∧ a < 4096 ∧ 1 ≤ c ∧ c ≤ 248 ∧ 0 ≤ b ∧ b ≤ 248 - c ∧ 0 ≤ d ∧ d ≤ c) := ⟨_, rfl⟩
  rw [← hM]
  have HM := Lib.hid hM
  clear hM
  go_enter Tryz.func50, Tryz.ntmps50
  have hb0 : Below w.heap.size w (w.alloc (.cells #[.int .i64 a, .int .i64 b, .int .i64 c, .int .i64 d] 59)) := (Below.refl _ w).alloc (Nat.le_refl _) _
  go_wp2
  all_goals
    go_ret
    refine ⟨ret_bool ?_, hb0⟩
    rw [HM.out]
    first
      | (symm; apply decide_eq_true; omega)
      | (symm; apply decide_eq_false; omega)
      | (apply decide_eq_decide.2; omega)
set_option maxRecDepth 100000 in
set_option maxHeartbeats 1600000 in
theorem rmayK_any (x : P.Q) (w : World) : Calls Tryz.prog 51 #[qV x] w fun e w' => e = .returned (.bool x.mayK) ∧ Below w.heap.size w w' := by
  obtain ⟨a, b, c, d⟩ := x
  unfold qV P.Q.mayK
  simp only
  obtain ⟨M, hM⟩ : ∃ M, M = decide (2 ≤ a ∧ a < 4096 ∧ 1 ≤ b ∧ b ≤ c ∧ c ≤ 1048576 ∧ 0 ≤ d ∧ d ≤ c) := ⟨_, rfl⟩
  rw [← hM]
  have HM := Lib.hid hM
  clear hM
  go_enter Tryz.func51, Tryz.ntmps51
  have hb0 : Below w.heap.size w (w.alloc (.cells #[.int .i64 a, .int .i64 b, .int .i64 c, .int .i64 d] 92)) := (Below.refl _ w).alloc (Nat.le_refl _) _
  go_wp2
  all_goals
    go_ret
    refine ⟨ret_bool ?_, hb0⟩
    rw [HM.out]
    first
      | (symm; apply decide_eq_true; omega)
      | (symm; apply decide_eq_false; omega)
      | (apply decide_eq_decide.2; omega)
set_option maxRecDepth 100000 in
set_option maxHeartbeats 1600000 in
theorem mayP_any (x : P.Q) (w : World) : Calls Tryz.prog 104 #[qV x] w fun e w' => e = .returned (.bool x.mayP) ∧ Below w.heap.size w w' := by
  obtain ⟨a, b, c, d⟩ := x
  unfold qV P.Q.mayP
  simp only
  obtain ⟨M, hM⟩ : ∃ M, M = decide (2 ≤ a ∧ a < 4096 ∧ 1 ≤ c ∧ c ≤ 248 ∧ 0 ≤ b ∧ b ≤ 248 - c ∧ 0 ≤ d ∧ d ≤ c) := ⟨_, rfl⟩
  rw [← hM]
  have HM := Lib.hid hM
  clear hM
  go_enter Tryz.func104, Tryz.ntmps104
  have hb0 : Below w.heap.size w (w.alloc (.cells #[.int .i64 a, .int .i64 b, .int .i64 c, .int .i64 d] 59)) := (Below.refl _ w).alloc (Nat.le_refl _) _
  go_wp2_with fail
  refine (con_any a _).mono ?_
  rintro e w1 ⟨rfl, rfl⟩
  rcases hda : decide (2 ≤ a ∧ a < 4096) with _ | _
  case' false => have ha := of_decide_eq_false hda
  case' true => have ha := of_decide_eq_true hda
  all_goals
    clear hda
    go_wp2
  all_goals
    go_ret
    refine ⟨ret_bool ?_, hb0⟩
    rw [HM.out]
    first
      | (symm; apply decide_eq_true; omega)
      | (symm; apply decide_eq_false; omega)
      | (apply decide_eq_decide.2; omega)
set_option maxRecDepth 100000 in
set_option maxHeartbeats 1600000 in
theorem mayK_any (x : P.Q) (w : World) : Calls Tryz.prog 108 #[qV x] w fun e w' => e = .returned (.bool x.mayK) ∧ Below w.heap.size w w' := by
  obtain ⟨a, b, c, d⟩ := x
  unfold qV P.Q.mayK
  simp only
  obtain ⟨M, hM⟩ : ∃ M, M = decide (2 ≤ a ∧ a < 4096 ∧ 1 ≤ b ∧ b ≤ c ∧ c ≤ 1048576 ∧ 0 ≤ d ∧ d ≤ c) := ⟨_, rfl⟩
  rw [← hM]
  have HM := Lib.hid hM
  clear hM
  go_enter Tryz.func108, Tryz.ntmps108
  have hb0 : Below w.heap.size w (w.alloc (.cells #[.int .i64 a, .int .i64 b, .int .i64 c, .int .i64 d] 92)) := (Below.refl _ w).alloc (Nat.le_refl _) _
  go_wp2_with fail
  refine (con_any a _).mono ?_
  rintro e w1 ⟨rfl, rfl⟩
  rcases hda : decide (2 ≤ a ∧ a < 4096) with _ | _
  case' false => have ha := of_decide_eq_false hda
  case' true => have ha := of_decide_eq_true hda
  all_goals
    clear hda
    go_wp2
  all_goals
    go_ret
    refine ⟨ret_bool ?_, hb0⟩
    rw [HM.out]
    first
      | (symm; apply decide_eq_true; omega)
      | (symm; apply decide_eq_false; omega)
      | (apply decide_eq_decide.2; omega)
end Go.Proofs.YtnjpaanjgbfbaaaGreat
/- Rows of noughts, just made; a number put into one. -/
namespace Go.Proofs.YtnjpaanjgbfbaaaGreat
set_option linter.unusedVariables false
set_option linter.unusedSimpArgs false
open Go.RowKit

def zr (n : Nat) : Array Value := (bvs (List.replicate n 0)).toArray
set_option maxRecDepth 100000 in
theorem mk_zr (n : Nat) (hn : n ≤ 140737488355328) (w : World) : (Instr.makeSlice 22 (.int .i64 (n : Int)) (.int .i64 (n : Int))).run Tryz.prog w = .ok (.slice (some ⟨w.heap.size, 0, none⟩) n n) (w.alloc (.cells (zr n) 5)) := by
  have h := run_make_row' (P := Tryz.prog) 22 5 (.int .u8 0) 1 Tryz.underlying22 u8_info rfl .i64 .i64 n (by omega) (by omega) w
  rw [h]
  congr 3
  apply Array.ext'
  rw [toList_madeCells_one]
  simp [zr, bvs, bv]
end Go.Proofs.YtnjpaanjgbfbaaaGreat
/- The walk of chapter 8: numbers. -/
namespace Go.Proofs.YtnjpaanjgbfbaaaGreat
set_option linter.unusedVariables false
set_option linter.unusedSimpArgs false
open Go.RowKit

theorem intsT : SlT 33 3 1 8 := ⟨Tryz.underlying33, ⟨.int .i64 0, by kernel_rfl, rfl⟩, by omega⟩
/-- The first j numbers read; where the next one stands. -/
def atTo (ns : List Int) : Nat → Int
  | 0 => 0
  | j + 1 => atTo ns j + ns.getD j 0
def one1 (l : List UInt8) (at_ n : Int) : Int := if (P.get l at_ n).2 then (P.get l at_ n).1 else -1
def numTo (ns : List Int) (l : List UInt8) : Nat → List Int
  | 0 => []
  | j + 1 => numTo ns l j ++ [one1 l (atTo ns j) (ns.getD j 0)]
theorem atTo_le (ns : List Int) (h : ∀ x ∈ ns, 1 ≤ x ∧ x ≤ 8) (j : Nat) (hj : j ≤ ns.length) : 0 ≤ atTo ns j ∧ atTo ns j ≤ 8 * j := by
  induction j with
  | zero => simp [atTo]
  | succ j ih =>
    have h1 := ih (by omega)
    have h2 := h (ns.getD j 0) (by rw [List.getD_eq_getElem?_getD, List.getElem?_eq_getElem (by omega)]; exact List.getElem_mem _)
    simp only [atTo]
    omega
set_option maxRecDepth 100000 in
set_option maxHeartbeats 1600000 in
theorem numbers_any (a : Option Addr) (n ca : Nat) (ns : List Int) (b : Option Addr) (m cb : Nat) (l : List UInt8) (w : World) (ha : RI w a n ns) (hb : Rd w b m l) (hn10 : n ≤ 10)
    (h1 : ∀ x ∈ ns, 1 ≤ x ∧ x ≤ 8) :
    Calls Tryz.prog 103 #[.slice a n ca, .slice b m cb] w fun e w' => ∃ v, e = .returned v ∧ OV w' w.heap.size 3 1 v n (ivs (numTo ns l n)) ∧ Below w.heap.size w w' := by
  have hln := ha.len
  have HA := Lib.hid ha
  have HB := Lib.hid hb
  have H1 := Lib.hid h1
  have HLL := Lib.hid (atTo_le ns h1)
  clear ha hb h1
  go_enter Tryz.func103, Tryz.ntmps103
  go_wp2
  go_loopw [5, 6, 13] (fun v at_ i wr => ∃ j : Nat, j ≤ n ∧ i = .int .i64 j ∧ at_ = .int .i64 (atTo ns j) ∧ (∃ a n c, v = .slice a n c) ∧ OV wr w.heap.size 3 1 v j (ivs (numTo ns l j)) ∧ Below w.heap.size w wr) (fun v _ i _ => n - (intOf i).toNat)
  case atStart => exact ⟨0, by omega, rfl, rfl, ⟨_, _, _, rfl⟩, OV.nil _ _ _ _, Below.refl _ _⟩
  case round =>
    obtain ⟨j, hj, rfl, rfl, ⟨av, nv, cv, rfl⟩, ho, hbr⟩ := hrel
    have HO := Lib.hid ho
    clear ho
    by_cases hlt : j < n
    · obtain ⟨p, rfl, hp⟩ := (HA.out.below hbr).at j (by omega)
      have hs := H1.out ns[j] (List.getElem_mem _)
      have hat := HLL.out j (by omega)
      have en : ns.getD j 0 = ns[j] := by simp [List.getD, show j < ns.length by omega]
      have hnx : numTo ns l (j + 1) = numTo ns l j ++ [one1 l (atTo ns j) ns[j]] := by rw [numTo, en]
      have hax : atTo ns (j + 1) = atTo ns j + ns[j] := by rw [atTo, en]
      rw [show one1 l (atTo ns j) ns[j] = if (P.get l (atTo ns j) ns[j]).2 then (P.get l (atTo ns j) ns[j]).1 else -1 from rfl] at hnx
      have HG := Lib.hid (get_any b m cb l (atTo ns j) ns[j])
      obtain ⟨N, hN⟩ : ∃ N : Int, N = ns[j] := ⟨_, rfl⟩
      obtain ⟨AT, hAT⟩ : ∃ N : Int, N = atTo ns j := ⟨_, rfl⟩
      rw [← hN, ← hAT] at HG hnx hax
      rw [← hN] at hs hp
      rw [← hAT] at hat ⊢
      generalize P.get l AT N = G at *
      obtain ⟨gv, gf⟩ := G
      simp only at hnx HG
      have lp : (p.add j).block < wr.heap.size := lt_of_cell hp
      have HNX := Lib.hid hnx
      have HAX := Lib.hid hax
      clear en hN hAT hnx hax
      rcases gf with _ | _
      case false =>
        go_wp2_with fail
        refine (HG.out _ (HB.out.below hbr) (by omega)).mono ?_
        rintro e wg ⟨rfl, hbg⟩
        have hbb := below_then hbr hbg hbr.size
        have hp' := (hbg.cell lp).trans hp
        have hbw : Below wg.heap.size wg (wg.alloc (.cells #[.int .i64 (-1)] 3)) := (Below.refl _ wg).alloc (Nat.le_refl _) _
        have HRX : Hid (RI (wg.alloc (.cells #[.int .i64 (-1)] 3)) (some ⟨wg.heap.size, 0, none⟩) 1 [(-1)]) := Lib.hid (RI_lit wg 3 [(-1)] (by simp [maxLen]))
        have hbr2 := hbg.trans (hbw.mono hbg.size)
        have hst : w.heap.size ≤ (wg.alloc (.cells #[.int .i64 (-1)] 3)).heap.size := by have := hbb.size; simp; omega
        go_wp2_with (at_builtin; refine wpList_appV intsT _ rfl _ _ rfl w.heap.size _ _ _ rfl (HO.out.below hbr2) _ _ _ _ rfl HRX.out (ivs_one _) ?c1 ?c2 hst ?_)
        case c1 => omega
        case c2 => omega
        intro v1 w1 hown1 hg1 hat1
        have hb1 : Below w.heap.size w w1 := (HO.out.below hbr2).grown (hbb.trans (hbw.mono hbb.size)) hst hg1
        rw [show ivs (numTo ns l j) ++ ivs [(-1)] = ivs (numTo ns l (j + 1)) by rw [HNX.out]; simp [ivs]] at hown1
        obtain ⟨a1, c1, hv1, -, -, -, -⟩ := hown1.form
        subst hv1
        have HO1 := Lib.hid hown1
        clear hown1 hg1 hat1 hp hp' hbw
        go_wp2
        go_roundw
        case rel => exact ⟨j + 1, by omega, by first | go_num | (simp; done), by first | (rw [HAX.out]; done) | (rw [HAX.out]; go_num), ⟨_, _, _, rfl⟩, HO1.out, hb1⟩
        case measure => simp [intOf]; omega
      case true =>
        go_wp2_with fail
        refine (HG.out _ (HB.out.below hbr) (by omega)).mono ?_
        rintro e wg ⟨rfl, hbg⟩
        have hbb := below_then hbr hbg hbr.size
        have hp' := (hbg.cell lp).trans hp
        have hbw : Below wg.heap.size wg (wg.alloc (.cells #[.int .i64 gv] 3)) := (Below.refl _ wg).alloc (Nat.le_refl _) _
        have HRX : Hid (RI (wg.alloc (.cells #[.int .i64 gv] 3)) (some ⟨wg.heap.size, 0, none⟩) 1 [gv]) := Lib.hid (RI_lit wg 3 [gv] (by simp [maxLen]))
        have hbr2 := hbg.trans (hbw.mono hbg.size)
        have hst : w.heap.size ≤ (wg.alloc (.cells #[.int .i64 gv] 3)).heap.size := by have := hbb.size; simp; omega
        go_wp2_with (at_builtin; refine wpList_appV intsT _ rfl _ _ rfl w.heap.size _ _ _ rfl (HO.out.below hbr2) _ _ _ _ rfl HRX.out (ivs_one _) ?c1 ?c2 hst ?_)
        case c1 => omega
        case c2 => omega
        intro v1 w1 hown1 hg1 hat1
        have hb1 : Below w.heap.size w w1 := (HO.out.below hbr2).grown (hbb.trans (hbw.mono hbb.size)) hst hg1
        rw [show ivs (numTo ns l j) ++ ivs [gv] = ivs (numTo ns l (j + 1)) by rw [HNX.out]; simp [ivs]] at hown1
        obtain ⟨a1, c1, hv1, -, -, -, -⟩ := hown1.form
        subst hv1
        have HO1 := Lib.hid hown1
        clear hown1 hg1 hat1 hp hp' hbw
        go_wp2
        go_roundw
        case rel => exact ⟨j + 1, by omega, by first | go_num | (simp; done), by first | (rw [HAX.out]; done) | (rw [HAX.out]; go_num), ⟨_, _, _, rfl⟩, HO1.out, hb1⟩
        case measure => simp [intOf]; omega
    · obtain rfl : j = n := by omega
      go_wp2
      go_ret
      exact ⟨_, rfl, HO.out, hbr⟩
end Go.Proofs.YtnjpaanjgbfbaaaGreat
/- The walks of noughts: cell's, chain's, the reference's. -/
namespace Go.Proofs.YtnjpaanjgbfbaaaGreat
set_option linter.unusedVariables false
set_option linter.unusedSimpArgs false
open Go.RowKit

theorem zeros_take {l : List UInt8} {j : Nat} (h : P.zeros (l.take j) = true) (hj : j < l.length) (hz : l[j] = 0) : P.zeros (l.take (j + 1)) = true := by
  rw [take_snoc l j hj]
  unfold P.zeros at *
  rw [List.all_append, h]
  simp [hz]
theorem zeros_not {l : List UInt8} {j : Nat} (hj : j < l.length) (hz : l[j] ≠ 0) : P.zeros l = false := by
  unfold P.zeros
  rw [List.all_eq_false]
  exact ⟨l[j], List.getElem_mem hj, by simpa using hz⟩
set_option maxRecDepth 100000 in
set_option maxHeartbeats 400000 in
theorem cnoughts_any (a : Option Addr) (len cap : Nat) (l : List UInt8) (w : World) (hl : Rd w a len l) :
    Calls Tryz.prog 109 #[.slice a len cap] w fun e w' => e = .returned (.bool (P.zeros l)) ∧ w' = w := by
  have la1 : l.length ≤ len := by have := hl.1; omega
  have la2 : len ≤ l.length := by have := hl.1; omega
  have hm := hl.2.1
  unfold maxLen at hm
  have HL := Lib.hid hl
  clear hl
  go_enter Tryz.func109, Tryz.ntmps109
  go_wp2
  go_loopw [7] (fun i wr => ∃ j : Nat, j ≤ len ∧ i = .int .i64 j ∧ P.zeros (l.take j) = true ∧ wr = w) (fun i _ => len - (intOf i).toNat)
  case atStart => exact ⟨0, by omega, rfl, by simp [P.zeros], rfl⟩
  case round =>
    obtain ⟨j, hj, rfl, hpre, rfl⟩ := hrel
    have HP := Lib.hid hpre
    clear hpre
    by_cases hlt : j < len
    · obtain ⟨p, rfl, hc0⟩ := HL.out.at j (by omega)
      unfold bv at hc0
      by_cases he : l[j] = 0
      · have ht : ((l[j].toNat : Int) != 0) = false := by simp [he]
        have HN : Hid (P.zeros (l.take (j + 1)) = true) := Lib.hid (zeros_take HP.out (by omega) he)
        clear he
        go_wp2
        exact ⟨⟨j + 1, by omega, by go_num, HN.out, by first | trivial | rfl⟩, by simp [intOf]; omega⟩
      · have ht : ((l[j].toNat : Int) != 0) = true := by
          simp only [bne_iff_ne, ne_eq]
          intro e
          exact he (UInt8.toNat_inj.1 (by simpa using e))
        have HV := Lib.hid (zeros_not (by omega) he)
        clear he
        go_wp2
        go_ret
        exact ⟨by rw [HV.out]; rfl, rfl⟩
    · obtain rfl : j = len := by omega
      have hv : P.zeros l = true := by
        have e := HP.out
        rwa [List.take_of_length_le (by omega)] at e
      have HV := Lib.hid hv
      clear hv
      go_wp2
      go_ret
      exact ⟨by rw [HV.out]; rfl, rfl⟩

theorem drop_take_snoc' (l : List UInt8) (i j : Nat) (h : i + j < l.length) : (l.drop i).take (j + 1) = (l.drop i).take j ++ [l[i + j]] := by
  rw [take_snoc _ j (by simp; omega)]
  simp
set_option maxRecDepth 100000 in
set_option maxHeartbeats 400000 in
theorem rzeros_any (a : Option Addr) (len cap : Nat) (l : List UInt8) (i : Nat) (w : World) (hl : Rd w a len l) (hi : i ≤ len) :
    Calls Tryz.prog 66 #[.slice a len cap, .int .i64 i] w fun e w' => e = .returned (.bool (P.zeros (l.drop i))) ∧ w' = w := by
  have la1 : l.length ≤ len := by have := hl.1; omega
  have la2 : len ≤ l.length := by have := hl.1; omega
  have hm := hl.2.1
  unfold maxLen at hm
  have HL := Lib.hid hl
  clear hl
  go_enter Tryz.func66, Tryz.ntmps66
  go_wp2
  go_loopw [5] (fun x wr => ∃ j : Nat, i + j ≤ len ∧ x = .int .i64 ((i + j : Nat) : Int) ∧ P.zeros ((l.drop i).take j) = true ∧ wr = w) (fun x _ => len - (intOf x).toNat)
  case atStart => exact ⟨0, by omega, rfl, by simp [P.zeros], rfl⟩
  case round =>
    obtain ⟨j, hj, rfl, hpre, rfl⟩ := hrel
    have HP := Lib.hid hpre
    clear hpre
    by_cases hlt : i + j < len
    · obtain ⟨p, rfl, hc0⟩ := HL.out.at (i + j) (by omega)
      unfold bv at hc0
      by_cases he : l[i + j] = 0
      · have ht : ((l[i + j].toNat : Int) != 0) = false := by simp [he]
        have HN : Hid (P.zeros ((l.drop i).take (j + 1)) = true) := by
          rw [Hid, drop_take_snoc' l i j (by omega), he]
          have h := HP.out
          unfold P.zeros at *
          rw [List.all_append, h]
          rfl
        clear he
        obtain ⟨m, hm⟩ : ∃ m, m = i + j := ⟨_, rfl⟩
        go_wp2
        exact ⟨⟨j + 1, by omega, by first | go_num | (simp; omega), HN.out, by first | trivial | rfl⟩, by simp [intOf]; omega⟩
      · have ht : ((l[i + j].toNat : Int) != 0) = true := by
          simp only [bne_iff_ne, ne_eq]
          intro e
          exact he (UInt8.toNat_inj.1 (by simpa using e))
        have HV := Lib.hid (zeros_not (l := l.drop i) (j := j) (by simp; omega) (by simpa using he))
        clear he
        go_wp2
        go_ret
        exact ⟨by rw [HV.out]; rfl, rfl⟩
    · have hv : P.zeros (l.drop i) = true := by
        have e := HP.out
        rwa [List.take_of_length_le (by simp; omega)] at e
      have HV := Lib.hid hv
      clear hv
      go_wp2
      go_ret
      exact ⟨by rw [HV.out]; rfl, rfl⟩
end Go.Proofs.YtnjpaanjgbfbaaaGreat
/- The walk with and without the bound on the text. Plain law. -/
namespace Go.Proofs.YtnjpaanjgbfbaaaGreat.P

theorem foldlM_keep {α β : Type} (f : β → α → Option β) (R : β → β → Prop) (hr : ∀ b, R b b) (ht : ∀ a b c, R a b → R b c → R a c) (hf : ∀ b a b', f b a = some b' → R b b') :
    ∀ (l : List α) (b b' : β), l.foldlM f b = some b' → R b b' := by
  intro l
  induction l with
  | nil => intro b b' h; simp at h; subst h; exact hr b
  | cons a l ih =>
    intro b b' h
    rw [List.foldlM_cons] at h
    rcases hb : f b a with _ | b1
    · rw [hb] at h; cases h
    · rw [hb] at h
      exact ht _ _ _ (hf _ _ _ hb) (ih _ _ h)
theorem foldlM_lim {α β : Type} (f g : β → α → Option β) (sz : β → Nat) (M : Nat) (hm : ∀ b a b', f b a = some b' → sz b ≤ sz b') (hs : ∀ b a b', f b a = some b' → sz b' ≤ M → g b a = some b') :
    ∀ (l : List α) (b b' : β), l.foldlM f b = some b' → sz b' ≤ M → l.foldlM g b = some b' := by
  intro l
  induction l with
  | nil => intro b b' h _; exact h
  | cons a l ih =>
    intro b b' h hM
    rw [List.foldlM_cons] at h ⊢
    rcases hb : f b a with _ | b1
    · rw [hb] at h; cases h
    · rw [hb] at h
      have h1 := foldlM_keep f (fun x y => sz x ≤ sz y) (fun _ => Nat.le_refl _) (fun _ _ _ => Nat.le_trans) hm l b1 b' h
      rw [hs b a b1 hb (Nat.le_trans h1 hM)]
      exact ih _ _ h hM
theorem txAt_tx {img : List UInt8} {np : Nat} {st s : St} {n : Nat} (h : txAt img np st n = some s) : s.tx = st.tx ∧ s.ps = st.ps := by
  unfold txAt at h
  split at h
  · cases h; exact ⟨rfl, rfl⟩
  · split at h
    · cases h; exact ⟨rfl, rfl⟩
    · cases h
theorem piece_tx {img : List UInt8} {np : Nat} {lim : Bool} {st s : St} {p : Q} (h : piece img np lim st p = some s) : s.tx = st.tx ++ cutP img p ∧ s.ps = st.ps ++ [p] ∧ (cutP img p).length = p.c.toNat := by
  unfold piece at h
  rcases h1 : txAt img np st p.a.toNat with _ | s1
  · rw [h1] at h; cases h
  · rw [h1] at h
    simp only [Option.bind_some] at h
    split at h
    · rename_i hc
      cases h
      obtain ⟨e1, e2⟩ := txAt_tx h1
      refine ⟨by rw [e1], by rw [e2], ?_⟩
      unfold cutP slice
      rw [List.length_take, List.length_drop]
      omega
    · cases h
theorem piece_lim {img : List UInt8} {np : Nat} {st s : St} {p : Q} (h : piece img np false st p = some s) (hM : s.tx.length ≤ 1048576) : piece img np true st p = some s := by
  obtain ⟨e1, -, -⟩ := piece_tx h
  unfold piece at h ⊢
  rcases h1 : txAt img np st p.a.toNat with _ | s1
  · rw [h1] at h; cases h
  · rw [h1] at h
    simp only [Option.bind_some] at h ⊢
    obtain ⟨e2, -⟩ := txAt_tx h1
    split at h
    · rename_i hc
      rw [if_pos ⟨hc.1, hc.2.1, fun _ => by rw [e2, ← e1]; exact hM⟩]
      exact h
    · cases h
theorem piece_unlim {img : List UInt8} {np : Nat} {lim : Bool} {st s : St} {p : Q} (h : piece img np lim st p = some s) : piece img np false st p = some s := by
  unfold piece at h ⊢
  rcases h1 : txAt img np st p.a.toNat with _ | s1
  · rw [h1] at h; cases h
  · rw [h1] at h
    simp only [Option.bind_some] at h ⊢
    split at h
    · rename_i hc
      rw [if_pos ⟨hc.1, hc.2.1, fun e => by cases e⟩]
      exact h
    · cases h
theorem foldlM_imp {α β : Type} (f g : β → α → Option β) (hs : ∀ b a b', f b a = some b' → g b a = some b') (l : List α) (b b' : β) (h : l.foldlM f b = some b') : l.foldlM g b = some b' :=
  foldlM_lim f g (fun _ => 0) 0 (fun _ _ _ _ => Nat.le_refl _) (fun b a b' h _ => hs b a b' h) l b b' h (Nat.le_refl _)
theorem leaf_unlim {img : List UInt8} {np : Nat} {lim root : Bool} {st : St} {n : Nat} {x : Sm × St} (h : leafW img np lim n root st = some x) : leafW img np false n root st = some x := by
  unfold leafW at h ⊢
  split at h
  · rename_i hc
    rw [if_pos hc]
    rcases h1 : (pcL (pg img n)).foldlM (piece img np lim) (st.hit n 3) with _ | s
    · rw [h1] at h; cases h
    · rw [foldlM_imp _ (piece img np false) (fun b a b' => piece_unlim) _ _ _ h1]
      rw [h1] at h
      exact h
  · cases h
theorem leaf_lim {img : List UInt8} {np : Nat} {root : Bool} {st : St} {n : Nat} {x : Sm × St} (h : leafW img np false n root st = some x) (hM : x.2.tx.length ≤ 1048576) : leafW img np true n root st = some x := by
  unfold leafW at h ⊢
  split at h
  · rename_i hc
    rw [if_pos hc]
    rcases h1 : (pcL (pg img n)).foldlM (piece img np false) (st.hit n 3) with _ | s
    · rw [h1] at h; cases h
    · rw [h1] at h
      cases h
      rw [foldlM_lim _ (piece img np true) (fun s : St => s.tx.length) 1048576 (fun b a b' hb => by rw [(piece_tx hb).1]; simp) (fun b a b' => piece_lim) _ _ _ h1 hM]
      rfl
  · cases h
theorem kid_some {f : Nat → Bool → St → Option (Sm × St)} {x y : Sm × St} {k : Q} (h : kidStep f x k = some y) : ∃ z, f k.a.toNat false x.2 = some z ∧ z.1 = ⟨k.b, k.c, k.d⟩ ∧ y = (x.1.add z.1, z.2) := by
  unfold kidStep at h
  rcases h1 : f k.a.toNat false x.2 with _ | z
  · rw [h1] at h; cases h
  · rw [h1] at h
    simp only [Option.bind_some] at h
    split at h
    · rename_i hc
      cases h
      exact ⟨z, rfl, hc, rfl⟩
    · cases h
theorem kid_of {f : Nat → Bool → St → Option (Sm × St)} {x z : Sm × St} {k : Q} (h : f k.a.toNat false x.2 = some z) (hz : z.1 = ⟨k.b, k.c, k.d⟩) : kidStep f x k = some (x.1.add z.1, z.2) := by
  unfold kidStep
  rw [h]
  simp only [Option.bind_some]
  rw [if_pos hz]
theorem leaf_tx {img : List UInt8} {np : Nat} {lim root : Bool} {st : St} {n : Nat} {x : Sm × St} (h : leafW img np lim n root st = some x) : st.tx.length ≤ x.2.tx.length := by
  unfold leafW at h
  split at h
  · rcases h1 : (pcL (pg img n)).foldlM (piece img np lim) (st.hit n 3) with _ | s
    · rw [h1] at h; cases h
    · rw [h1] at h
      cases h
      have h2 := foldlM_keep (piece img np lim) (fun a b : St => a.tx.length ≤ b.tx.length) (fun _ => Nat.le_refl _) (fun _ _ _ => Nat.le_trans) (fun b a b' hb => by rw [(piece_tx hb).1]; simp) _ _ _ h1
      exact h2
  · cases h
theorem below_tx {img : List UInt8} {np : Nat} {lim : Bool} (lv : Nat) : ∀ (n : Nat) (root : Bool) (st : St) (x : Sm × St), below img np lim lv n root st = some x → st.tx.length ≤ x.2.tx.length := by
  induction lv with
  | zero => intro n root st x h; exact leaf_tx h
  | succ lv ih =>
    intro n root st x h
    unfold below at h
    split at h
    · exact foldlM_keep _ (fun a b : Sm × St => a.2.tx.length ≤ b.2.tx.length) (fun _ => Nat.le_refl _) (fun _ _ _ => Nat.le_trans) (fun b a b' hb => by
        obtain ⟨z, h1, -, rfl⟩ := kid_some hb
        have h2 := ih _ _ _ _ h1
        exact h2) _ _ _ h
    · cases h
theorem below_unlim {img : List UInt8} {np : Nat} {lim : Bool} (lv : Nat) : ∀ (n : Nat) (root : Bool) (st : St) (x : Sm × St), below img np lim lv n root st = some x → below img np false lv n root st = some x := by
  induction lv with
  | zero => intro n root st x h; exact leaf_unlim h
  | succ lv ih =>
    intro n root st x h
    unfold below at h ⊢
    split at h
    · rename_i hc
      rw [if_pos hc]
      exact foldlM_imp _ _ (fun b a b' hb => by
        obtain ⟨z, h1, h2, rfl⟩ := kid_some hb
        exact kid_of (ih _ _ _ _ h1) h2) _ _ _ h
    · cases h
theorem below_lim {img : List UInt8} {np : Nat} (lv : Nat) : ∀ (n : Nat) (root : Bool) (st : St) (x : Sm × St), below img np false lv n root st = some x → x.2.tx.length ≤ 1048576 → below img np true lv n root st = some x := by
  induction lv with
  | zero => intro n root st x h hM; exact leaf_lim h hM
  | succ lv ih =>
    intro n root st x h hM
    unfold below at h ⊢
    split at h
    · rename_i hc
      rw [if_pos hc]
      exact foldlM_lim _ _ (fun s : Sm × St => s.2.tx.length) 1048576 (fun b a b' hb => by
        obtain ⟨z, h1, -, rfl⟩ := kid_some hb
        have h2 := below_tx lv _ _ _ _ h1
        exact h2) (fun b a b' hb hM' => by
        obtain ⟨z, h1, h2, rfl⟩ := kid_some hb
        exact kid_of (ih _ _ _ _ h1 hM') h2) _ _ _ h hM
    · cases h
end Go.Proofs.YtnjpaanjgbfbaaaGreat.P
/- The walk, step by step. Plain law. -/
namespace Go.Proofs.YtnjpaanjgbfbaaaGreat.P

theorem foldlM_take {α β : Type} (f : β → α → Option β) (l : List α) (b : β) (i : Nat) (hi : i < l.length) : (l.take (i + 1)).foldlM f b = ((l.take i).foldlM f b).bind fun s => f s l[i] := by
  rw [List.take_succ_eq_append_getElem hi, List.foldlM_append]
  cases (l.take i).foldlM f b with
  | none => rfl
  | some s =>
    simp [List.foldlM]
theorem foldlM_fail {α β : Type} (f : β → α → Option β) (l : List α) (b : β) (i : Nat) (h : (l.take i).foldlM f b = none) : l.foldlM f b = none := by
  rw [← List.take_append_drop i l, List.foldlM_append, h]
  rfl
theorem pcL_all {b : List UInt8} (h : pcErr b = 0) : (pcL b).length ≤ 20 ∧ ∀ (i : Nat) (hi : i < (pcL b).length), (pcL b)[i].mayP = true := by
  have h1 := (leaf_again b h).1
  unfold leafErr at h1
  split at h1
  · rename_i hc
    exact ⟨hc.2.1, fun i hi => List.all_eq_true.1 hc.2.2 _ (List.getElem_mem hi)⟩
  · cases h1
theorem kdL_all {b : List UInt8} (h : kdErr b = 0) : (kdL b).length ≤ 12 ∧ (∀ (i : Nat) (hi : i < (kdL b).length), (kdL b)[i].mayK = true) ∧ 1 ≤ kdV b ∧ kdV b ≤ 32 := by
  have h1 := (inn_again b h).1
  unfold innErr at h1
  split at h1
  · rename_i hc
    exact ⟨hc.2.2.2.1, fun i hi => List.all_eq_true.1 hc.2.2.2.2 _ (List.getElem_mem hi), hc.1, hc.2.1⟩
  · cases h1
theorem smOf_snoc (l : List Q) (x : Q) : smOf (l ++ [x]) = (smOf l).add ⟨1, x.c, x.d⟩ := by simp [smOf]
theorem smOf_take (l : List Q) (i : Nat) (hi : i < l.length) : smOf (l.take (i + 1)) = (smOf (l.take i)).add ⟨1, l[i].c, l[i].d⟩ := by
  rw [List.take_succ_eq_append_getElem hi, smOf_snoc]
theorem smOf_bound (l : List Q) (h : ∀ (i : Nat) (hi : i < l.length), l[i].mayP = true) (i : Nat) (hi : i ≤ l.length) : 0 ≤ (smOf (l.take i)).p ∧ (smOf (l.take i)).p = i ∧ 0 ≤ (smOf (l.take i)).b ∧ (smOf (l.take i)).b ≤ 248 * i ∧ 0 ≤ (smOf (l.take i)).l ∧ (smOf (l.take i)).l ≤ 248 * i := by
  induction i with
  | zero => simp [smOf]
  | succ i ih =>
    have ih := ih (by omega)
    have hm := (Q.mayP_iff _).1 (h i (by omega))
    rw [smOf_take l i (by omega)]
    unfold Sm.add
    simp only
    omega
/-- What a leaf leaves. -/
theorem leaf_ps {img : List UInt8} {np : Nat} {lim root : Bool} {st : St} {n : Nat} {x : Sm × St} (h : leafW img np lim n root st = some x) : x.2.ps.length ≤ st.ps.length + 20 := by
  unfold leafW at h
  split at h
  · rename_i hc
    rcases h1 : (pcL (pg img n)).foldlM (piece img np lim) (st.hit n 3) with _ | s
    · rw [h1] at h; cases h
    · rw [h1] at h
      cases h
      have hk : ∀ (l : List Q) (b b' : St), l.foldlM (piece img np lim) b = some b' → b'.ps.length = b.ps.length + l.length := by
        intro l
        induction l with
        | nil => intro b b' h; simp at h; subst h; rfl
        | cons a l ih =>
          intro b b' h
          rw [List.foldlM_cons] at h
          rcases hb : piece img np lim b a with _ | b1
          · rw [hb] at h; cases h
          · rw [hb] at h
            have := ih _ _ h
            rw [this, (piece_tx hb).2.1]
            simp
            omega
      have := hk _ _ _ h1
      have h20 := (pcL_all hc.2.1).1
      simp only [St.hit] at this ⊢
      omega
  · cases h
theorem txAt_cnt {img : List UInt8} {np : Nat} {st s : St} {n : Nat} (h : txAt img np st n = some s) : cnt np st ≤ cnt np s := by
  unfold txAt at h
  split at h
  · cases h; exact Nat.le_refl _
  · split at h
    · rename_i hc
      cases h
      rw [cnt_hit np st n 4 (by omega) hc.1]
      omega
    · cases h
theorem piece_cnt {img : List UInt8} {np : Nat} {lim : Bool} {st s : St} {p : Q} (h : piece img np lim st p = some s) : cnt np st ≤ cnt np s := by
  unfold piece at h
  rcases h1 : txAt img np st p.a.toNat with _ | s1
  · rw [h1] at h; cases h
  · rw [h1] at h
    simp only [Option.bind_some] at h
    split at h
    · cases h
      have h2 := txAt_cnt h1
      exact h2
    · cases h
theorem leaf_cnt {img : List UInt8} {np : Nat} {lim root : Bool} {st : St} {n : Nat} {x : Sm × St} (h : leafW img np lim n root st = some x) : cnt np st + 1 ≤ cnt np x.2 := by
  unfold leafW at h
  split at h
  · rename_i hc
    rcases h1 : (pcL (pg img n)).foldlM (piece img np lim) (st.hit n 3) with _ | s
    · rw [h1] at h; cases h
    · rw [h1] at h
      cases h
      have h2 := foldlM_keep (piece img np lim) (fun a b : St => cnt np a ≤ cnt np b) (fun _ => Nat.le_refl _) (fun _ _ _ => Nat.le_trans) (fun b a b' hb => piece_cnt hb) _ _ _ h1
      rw [cnt_hit np st n 3 (by omega) hc.1] at h2
      exact h2
  · cases h
theorem below_few {img : List UInt8} {np : Nat} {lim : Bool} (lv : Nat) : ∀ (n : Nat) (root : Bool) (st : St) (x : Sm × St), below img np lim lv n root st = some x → x.2.ps.length + 20 * cnt np st ≤ st.ps.length + 20 * cnt np x.2 := by
  induction lv with
  | zero =>
    intro n root st x h
    have h1 := leaf_ps h
    have h2 := leaf_cnt h
    omega
  | succ lv ih =>
    intro n root st x h
    unfold below at h
    split at h
    · rename_i hc
      have h2 := foldlM_keep _ (fun a b : Sm × St => b.2.ps.length + 20 * cnt np a.2 ≤ a.2.ps.length + 20 * cnt np b.2) (fun _ => Nat.le_refl _) (fun _ _ _ h1 h2 => by omega) (fun b a b' hb => by
        obtain ⟨z, h1, -, rfl⟩ := kid_some hb
        have h2 := ih _ _ _ _ h1
        exact h2) _ _ _ h
      have h3 := cnt_hit np st n 2 (by omega) hc.1
      simp only [St.hit] at h2 h3
      have e : (({ met := fun m => if m = n then 2 else st.met m, ps := st.ps, tx := st.tx } : St)).ps.length = st.ps.length := rfl
      omega
    · cases h
end Go.Proofs.YtnjpaanjgbfbaaaGreat.P
/- slices.Clone of bytes (as in XReA). -/
namespace Go.Proofs.YtnjpaanjgbfbaaaGreat
set_option linter.unusedVariables false
set_option linter.unusedSimpArgs false
open Go.RowKit

set_option maxRecDepth 100000 in
theorem clone_any (a : Option Addr) (n c : Nat) (l : List UInt8) (w : World) (hr : Rd w a n l) (hn : n ≤ 1048576) :
    Calls Tryz.prog 42 #[.slice a n c] w fun e w' => ∃ v, e = .returned v ∧ OB w' w.heap.size v l ∧ Below w.heap.size w w' := by
  have HR := Lib.hid hr
  have hl := hr.1
  rcases a with _ | p
  · have hl0 : l = [] := by
      rcases l with _ | ⟨x, l⟩
      · rfl
      · obtain ⟨p, e, -⟩ := hr.at 0 (by simp)
        cases e
    subst hl0
    clear hr
    simp at hl
    subst hl
    have he : ∀ w : World, (binOp .eql 22 (.slice none 0 c) (.slice none 0 0)).run Tryz.prog w = .ok (.bool true) w := fun _ => rfl
    go_enter Tryz.func42, Tryz.ntmps42
    go_wp2
    go_ret
    exact ⟨_, rfl, OB.nil _ _, Below.refl _ _⟩
  · have hb : Below w.heap.size w (w.alloc (.cells #[] 5)) := (Below.refl _ w).alloc (Nat.le_refl _) _
    have ho : OB (w.alloc (.cells #[] 5)) w.heap.size (.slice (some ⟨w.heap.size, 0, none⟩) 0 0) [] := ⟨rfl, .inr ⟨w.heap.size, 0, #[], rfl, Nat.le_refl _, alloc_new _ _ _ rfl, Nat.le_refl _, by unfold maxLen; omega, rfl, rfl⟩⟩
    have HO := Lib.hid ho
    have HB := Lib.hid hb
    have he : ∀ w : World, (binOp .eql 22 (.slice (some p) n c) (.slice none 0 0)).run Tryz.prog w = .ok (.bool false) w := fun _ => rfl
    clear hr ho hb
    go_enter Tryz.func42, Tryz.ntmps42
    go_wp2_with (at_builtin; refine wpList_app _ rfl _ _ rfl w.heap.size _ _ rfl HO.out _ _ _ _ rfl (HR.out.below HB.out) ?c1 ?c2 ?_)
    case c1 => simp; omega
    case c2 => simp
    intro v1 w1 ho1 hg1 hat1
    have hb1 := HO.out.grown HB.out (by simp) hg1
    go_wp2
    go_ret
    exact ⟨_, rfl, ho1, hb1⟩
end Go.Proofs.YtnjpaanjgbfbaaaGreat
/- Chapter 11, plain: pages one behind the other at equal distances. -/
namespace Go.Proofs.YtnjpaanjgbfbaaaGreat.P
set_option linter.unusedVariables false

def lst (f s : Int) (n : Nat) : List Int := (List.range n).map (fun i : Nat => f + (i : Int) * s)
theorem lst_length (f s : Int) (n : Nat) : (lst f s n).length = n := by simp [lst]
theorem lst_succ (f s : Int) (n : Nat) : lst f s (n + 1) = lst f s n ++ [f + (n : Int) * s] := by simp [lst, List.range_succ]
theorem lst_get (f s : Int) (n i : Nat) (h : i < (lst f s n).length) : (lst f s n)[i] = f + (i : Int) * s := by simp [lst]
theorem lst_fits (b : List UInt8) (f s : Int) (n : Nat) (hs : 1 ≤ s) (hs2 : s ≤ 3) (hf : 2 ≤ f) (hf2 : f ≤ 2000) (hn : n = needN b.length) (hn2 : n ≤ 100) : fits b (lst f s n) = true := by
  rw [fits_iff]
  refine ⟨by rw [lst_length, hn], ?_, ?_⟩
  · intro p hp
    simp only [lst, List.mem_map, List.mem_range] at hp
    obtain ⟨i, hi, rfl⟩ := hp
    have h1 : 0 ≤ (i : Int) * s := Int.mul_nonneg (by omega) (by omega)
    have h2 : (i : Int) * s ≤ 100 * 3 := Int.mul_le_mul (by omega) hs2 (by omega) (by omega)
    omega
  · unfold lst
    refine List.Pairwise.map _ (fun a b hab => ?_) List.nodup_range
    intro e
    apply hab
    have h : ((a : Int) - b) * s = 0 := by rw [Int.sub_mul]; omega
    rcases Int.mul_eq_zero.1 h with h | h
    · omega
    · omega
theorem lst_next (f s : Int) (n i : Nat) : nextI (lst f s n) i = if i + 1 < n then f + ((i : Int) + 1) * s else 0 := by
  unfold nextI
  rw [List.getD_eq_getElem?_getD]
  split
  · rename_i h
    rw [List.getElem?_eq_getElem (by rw [lst_length]; exact h), lst_get]
    simp
  · rename_i h
    rw [List.getElem?_eq_none (by rw [lst_length]; omega)]
    rfl
theorem cutErr_zero (b : List UInt8) (l : List Int) (h : fits b l = true) (hb : b.length ≤ 1048576) : cutErr b l = 0 := by
  unfold cutErr
  rw [h, if_pos rfl, if_neg (by omega)]
theorem cutL_to (b : List UInt8) (l : List Int) (h : fits b l = true) (hb : b.length ≤ 1048576) : cutL b l = cutTo b l l.length := by
  unfold cutL
  rw [if_pos (cutErr_zero b l h hb)]
theorem cutTo_get (b : List UInt8) (l : List Int) (n i : Nat) (h : i < (cutTo b l n).length) : (cutTo b l n)[i] = cutPage b l i := by simp [cutTo]
theorem part_take (b : List UInt8) (n : Nat) : b.take (244 * (n + 1)) = b.take (244 * n) ++ part b n := by
  unfold part
  rw [Nat.mul_add, Nat.mul_one, List.take_add]
end Go.Proofs.YtnjpaanjgbfbaaaGreat.P
/- An image that was built, walked through: pieces, leaves, chains. Plain law. -/
namespace Go.Proofs.YtnjpaanjgbfbaaaGreat.P
set_option linter.unusedVariables false
set_option linter.unusedSimpArgs false

/-- A piece that its text page bears out. -/
def okPc (img : List UInt8) (np : Nat) (p : Q) : Prop :=
  2 ≤ p.a.toNat ∧ p.a.toNat < np ∧ txErr (pg img p.a.toNat) = 0 ∧ p.b.toNat + p.c.toNat ≤ (txL (pg img p.a.toNat)).length ∧ (nls (cutP img p) : Int) = p.d
def pgs (l : List Q) : List Nat := l.map fun p => p.a.toNat
theorem pgs_app (l k : List Q) : pgs (l ++ k) = pgs l ++ pgs k := by simp [pgs]
theorem tx_at (img : List UInt8) (np : Nat) (st : St) (n : Nat) (h2 : 2 ≤ n) (hn : n < np) (he : txErr (pg img n) = 0) (hm : st.met n = 0 ∨ st.met n = 4) : txAt img np st n = some (st.hit n 4) := by
  unfold txAt
  by_cases h4 : st.met n = 4
  · rw [if_pos h4]
    congr 1
    unfold St.hit
    have e : (fun m => if m = n then 4 else st.met m) = st.met := by
      funext m
      by_cases hmn : m = n
      · rw [if_pos hmn, hmn, h4]
      · rw [if_neg hmn]
    rw [e]
  · rw [if_neg h4, if_pos]
    refine ⟨?_, he⟩
    unfold free?
    exact decide_eq_true ⟨by omega, h2, hn⟩
theorem fold_pcs (img : List UInt8) (np : Nat) : ∀ (l : List Q) (st : St), (∀ p ∈ l, okPc img np p) → (∀ p ∈ l, st.met p.a.toNat = 0 ∨ st.met p.a.toNat = 4) →
    ∃ tx, l.foldlM (piece img np false) st = some ⟨fun m => if m ∈ pgs l then 4 else st.met m, st.ps ++ l, tx⟩ := by
  intro l
  induction l with
  | nil =>
    intro st _ _
    refine ⟨st.tx, ?_⟩
    have e : (fun m => if m ∈ pgs [] then 4 else st.met m) = st.met := by funext m; simp [pgs]
    rw [e, List.append_nil]
    rfl
  | cons p l ih =>
    intro st hp hm
    obtain ⟨h1, h2, h3, h4, h5⟩ := hp p List.mem_cons_self
    have ha := tx_at img np st p.a.toNat h1 h2 h3 (hm p List.mem_cons_self)
    have hs : piece img np false st p = some ⟨(st.hit p.a.toNat 4).met, st.ps ++ [p], st.tx ++ cutP img p⟩ := by
      unfold piece
      rw [ha]
      simp only [Option.bind_some]
      rw [if_pos ⟨h4, h5, fun e => by cases e⟩]
      rfl
    obtain ⟨tx, ht⟩ := ih ⟨(st.hit p.a.toNat 4).met, st.ps ++ [p], st.tx ++ cutP img p⟩ (fun q hq => hp q (List.mem_cons_of_mem _ hq)) (fun q hq => by
      simp only [St.hit]
      split
      · exact .inr rfl
      · exact hm q (List.mem_cons_of_mem _ hq))
    refine ⟨tx, ?_⟩
    rw [List.foldlM_cons, hs]
    show l.foldlM (piece img np false) _ = _
    rw [ht]
    have e : (fun m => if m ∈ pgs l then 4 else (st.hit p.a.toNat 4).met m) = fun m => if m ∈ pgs (p :: l) then 4 else st.met m := by
      funext m
      have hc : pgs (p :: l) = p.a.toNat :: pgs l := rfl
      rw [hc]
      simp only [St.hit, List.mem_cons]
      by_cases h1 : m ∈ pgs l
      · rw [if_pos h1, if_pos (.inr h1)]
      · rw [if_neg h1]
        by_cases h2 : m = p.a.toNat
        · rw [if_pos h2, if_pos (.inl h2)]
        · rw [if_neg h2, if_neg (by rintro (h | h); exact h2 h; exact h1 h)]
    rw [e, List.append_assoc]
    rfl
theorem smOf_eq (l : List Q) : smOf l = ⟨(l.length : Int), (l.map (·.c)).sum, (l.map (·.d)).sum⟩ := by
  induction l using snocInd with
  | nil => rfl
  | snoc l c ih =>
    rw [smOf_snoc, ih]
    simp [Sm.add, List.sum_append]
theorem leaf_of (img : List UInt8) (np n : Nat) (root : Bool) (st : St) (g : List Q) (hf : free? np st n = true) (he : pcErr (pg img n) = 0) (hl : pcL (pg img n) = g) (hr : root = true ∨ 10 ≤ g.length) (hg : ∀ p ∈ g, okPc img np p)
    (hm : ∀ p ∈ g, p.a.toNat ≠ n ∧ (st.met p.a.toNat = 0 ∨ st.met p.a.toNat = 4)) :
    ∃ tx, leafW img np false n root st = some (⟨(g.length : Int), (g.map (·.c)).sum, (g.map (·.d)).sum⟩, ⟨fun m => if m ∈ pgs g then 4 else if m = n then 3 else st.met m, st.ps ++ g, tx⟩) := by
  obtain ⟨tx, ht⟩ := fold_pcs img np g (st.hit n 3) hg (fun p hp => by
    simp only [St.hit]
    rw [if_neg (hm p hp).1]
    exact (hm p hp).2)
  refine ⟨tx, ?_⟩
  unfold leafW
  rw [if_pos ⟨hf, he, by rw [hl]; exact hr⟩, hl, ht, smOf_eq]
  rfl
def kid1 (A : Nat) (g : List Q) : Q := ⟨(A : Int), (g.length : Int), (g.map (·.c)).sum, (g.map (·.d)).sum⟩
def kids1 : Nat → List (List Q) → List Q
  | _, [] => []
  | A, g :: G => kid1 A g :: kids1 (A + 1) G
theorem fold_kids (img : List UInt8) (np : Nat) : ∀ (G : List (List Q)) (A : Nat) (s : Sm) (st : St), 2 ≤ A → A + G.length ≤ np →
    (∀ i (hi : i < G.length), pcErr (pg img (A + i)) = 0 ∧ pcL (pg img (A + i)) = G[i] ∧ 10 ≤ G[i].length) → (∀ m, A ≤ m → m < A + G.length → st.met m = 0) →
    (∀ p ∈ G.flatten, okPc img np p ∧ p.a.toNat < A ∧ (st.met p.a.toNat = 0 ∨ st.met p.a.toNat = 4)) →
    ∃ tx sp, (kids1 A G).foldlM (kidStep (below img np false 0)) (s, st) = some (⟨sp, s.b + (G.flatten.map (·.c)).sum, s.l + (G.flatten.map (·.d)).sum⟩, ⟨fun m => if m ∈ pgs G.flatten then 4 else if A ≤ m ∧ m < A + G.length then 3 else st.met m, st.ps ++ G.flatten, tx⟩) := by
  intro G
  induction G with
  | nil =>
    intro A s st _ _ _ _ _
    refine ⟨st.tx, s.p, ?_⟩
    have e : (fun m => if m ∈ pgs [].flatten then 4 else if A ≤ m ∧ m < A + ([] : List (List Q)).length then 3 else st.met m) = st.met := by
      funext m
      rw [if_neg (by simp [pgs]), if_neg (by simp only [List.length_nil]; omega)]
    rw [e]
    simp [kids1]
  | cons g G ih =>
    intro A s st h2 hnp hl hm hp
    simp only [List.length_cons] at hnp hm
    obtain ⟨p1, p2, p3⟩ := hl 0 (by simp)
    simp only [Nat.add_zero, List.getElem_cons_zero] at p1 p2 p3
    have hpg : ∀ p ∈ g, p ∈ (g :: G).flatten := fun p h => by simp [h]
    have hpG : ∀ p ∈ G.flatten, p ∈ (g :: G).flatten := fun p h => by
      rw [List.flatten_cons]
      exact List.mem_append_right _ h
    have hfr : free? np st A = true := by
      unfold free?
      exact decide_eq_true ⟨hm A (by omega) (by omega), h2, by omega⟩
    obtain ⟨t1, ht1⟩ := leaf_of img np A false st g hfr p1 p2 (.inr p3) (fun p h => (hp p (hpg p h)).1) (fun p h => ⟨by have := (hp p (hpg p h)).2.1; omega, (hp p (hpg p h)).2.2⟩)
    have hlt : ∀ m, m ∈ pgs g → m < A := fun m h => by
      obtain ⟨p, h1, rfl⟩ := List.mem_map.1 h
      exact (hp p (hpg p h1)).2.1
    obtain ⟨tx, sp, ht⟩ := ih (A + 1) (s.add ⟨(g.length : Int), (g.map (·.c)).sum, (g.map (·.d)).sum⟩) ⟨fun m => if m ∈ pgs g then 4 else if m = A then 3 else st.met m, st.ps ++ g, t1⟩ (by omega) (by omega)
      (fun i hi => by
        have h := hl (i + 1) (by simp; omega)
        rw [show A + 1 + i = A + (i + 1) from by omega]
        simpa using h)
      (fun m h1 h3 => by
        show (if m ∈ pgs g then 4 else if m = A then 3 else st.met m) = 0
        rw [if_neg (fun h => by have := hlt m h; omega), if_neg (by omega)]
        exact hm m (by omega) (by omega))
      (fun p h => by
        obtain ⟨h1, h3, h4⟩ := hp p (hpG p h)
        refine ⟨h1, by omega, ?_⟩
        show (if p.a.toNat ∈ pgs g then 4 else if p.a.toNat = A then 3 else st.met p.a.toNat) = 0 ∨ (if p.a.toNat ∈ pgs g then 4 else if p.a.toNat = A then 3 else st.met p.a.toNat) = 4
        split
        · exact .inr rfl
        · rw [if_neg (by omega)]; exact h4)
    refine ⟨tx, sp, ?_⟩
    show (kid1 A g :: kids1 (A + 1) G).foldlM _ _ = _
    rw [List.foldlM_cons]
    have hk : kidStep (below img np false 0) (s, st) (kid1 A g) = some (s.add ⟨(g.length : Int), (g.map (·.c)).sum, (g.map (·.d)).sum⟩, ⟨fun m => if m ∈ pgs g then 4 else if m = A then 3 else st.met m, st.ps ++ g, t1⟩) := by
      refine kid_of (z := (⟨(g.length : Int), (g.map (·.c)).sum, (g.map (·.d)).sum⟩, ⟨fun m => if m ∈ pgs g then 4 else if m = A then 3 else st.met m, st.ps ++ g, t1⟩)) ?_ rfl
      rw [below]
      exact ht1
    rw [hk]
    show (kids1 (A + 1) G).foldlM _ _ = _
    rw [ht]
    have e : (fun m => if m ∈ pgs G.flatten then 4 else if A + 1 ≤ m ∧ m < A + 1 + G.length then 3 else if m ∈ pgs g then 4 else if m = A then 3 else st.met m) = fun m => if m ∈ pgs (g :: G).flatten then 4 else if A ≤ m ∧ m < A + (g :: G).length then 3 else st.met m := by
      funext m
      have hc : pgs (g :: G).flatten = pgs g ++ pgs G.flatten := by rw [List.flatten_cons, pgs_app]
      rw [hc]
      simp only [List.mem_append, List.length_cons]
      by_cases h1 : m ∈ pgs G.flatten
      · rw [if_pos h1, if_pos (.inr h1)]
      · rw [if_neg h1]
        by_cases h3 : m ∈ pgs g
        · have := hlt m h3
          rw [if_neg (by omega), if_pos h3, if_pos (.inl h3)]
        · have hc2 : ¬ (m ∈ pgs g ∨ m ∈ pgs G.flatten) := fun h => h.elim h3 h1
          rw [if_neg h3, if_neg hc2]
          by_cases h4 : m = A
          · rw [if_neg (by omega), if_pos h4, if_pos (by omega)]
          · rw [if_neg h4]
            by_cases h5 : A + 1 ≤ m ∧ m < A + 1 + G.length
            · rw [if_pos h5, if_pos (by omega)]
            · rw [if_neg h5, if_neg (by omega)]
    simp only [Sm.add, List.flatten_cons, List.map_append, List.sum_append, ← Int.add_assoc, ← List.append_assoc] at *
    rw [e]
theorem chain_of (img : List UInt8) (np : Nat) (b : List UInt8) (A N : Nat) (hN : N = needN b.length) (hb : b.length ≤ 1048576) (h2 : 2 ≤ A) (hnp : A + N ≤ np)
    (hp : ∀ i, i < N → ptErr (pg img (A + i)) = 0 ∧ ptL (pg img (A + i)) = part b i ∧ ptN (pg img (A + i)) = if i + 1 < N then ((A + (i + 1) : Nat) : Int) else 0) :
    ∀ (k i f : Nat) (st : St), i + k = N → k ≤ f → (∀ m, A + i ≤ m → m < A + N → st.met m = 0) →
      chainW img np f (if k = 0 then 0 else A + i) (b.take (244 * i)) st = some (b, ⟨fun m => if A + i ≤ m ∧ m < A + N then 5 else st.met m, st.ps, st.tx⟩) := by
  intro k
  induction k with
  | zero =>
    intro i f st hi _ _
    have e1 : b.take (244 * i) = b := List.take_of_length_le (by rw [show i = N from by omega, hN]; unfold needN; omega)
    have e2 : (fun m => if A + i ≤ m ∧ m < A + N then 5 else st.met m) = st.met := by
      funext m
      rw [if_neg (by omega)]
    rw [if_pos rfl, e1, e2]
    cases f <;> rfl
  | succ k ih =>
    intro i f st hi hf hm
    obtain ⟨f, rfl⟩ : ∃ g, f = g + 1 := ⟨f - 1, by omega⟩
    obtain ⟨p1, p2, p3⟩ := hp i (by omega)
    obtain ⟨B, hB⟩ : ∃ B, A + i = B + 1 := ⟨A + i - 1, by omega⟩
    have hfr : free? np st (A + i) = true := by
      unfold free?
      exact decide_eq_true ⟨hm _ (by omega) (by omega), by omega, by omega⟩
    have hst := part_take b i
    have hlen : (b.take (244 * (i + 1))).length ≤ 1048576 := by rw [List.length_take]; omega
    rw [if_neg (by omega), hB, chainW, ← hB]
    rw [if_pos ⟨hfr, p1, by rw [p2, ← hst]; exact hlen⟩, p2, ← hst]
    have hnx : (ptN (pg img (A + i))).toNat = if k = 0 then 0 else A + (i + 1) := by
      rw [p3]
      by_cases h0 : k = 0
      · rw [if_neg (by omega), if_pos h0]; rfl
      · rw [if_pos (by omega), if_neg h0]; rfl
    rw [hnx, ih (i + 1) f (st.hit (A + i) 5) (by omega) (by omega) (fun m h1 h3 => by
      simp only [St.hit]
      rw [if_neg (by omega)]
      exact hm m (by omega) h3)]
    have e : (fun m => if A + (i + 1) ≤ m ∧ m < A + N then 5 else (st.hit (A + i) 5).met m) = fun m => if A + i ≤ m ∧ m < A + N then 5 else st.met m := by
      funext m
      simp only [St.hit]
      by_cases h1 : m = A + i
      · rw [if_neg (by omega), if_pos h1, if_pos (by omega)]
      · rw [if_neg h1]
        by_cases h3 : A + (i + 1) ≤ m ∧ m < A + N
        · rw [if_pos h3, if_pos (by omega)]
        · rw [if_neg h3, if_neg (by omega)]
    rw [e]
    rfl
end Go.Proofs.YtnjpaanjgbfbaaaGreat.P
