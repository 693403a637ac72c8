/- Rows of bytes that a call itself made: what they read as, appended to, stored into. -/
import Derived.Test.YtocepcibcapfbaaGreatProg
import Derived.Test.YtocepcibcapfbaaGreatJ00
import Derived.KernelRfl
import Derived.OwnWalk
import Derived.Maps.AppendAt
import Derived.Deep.AppendLies
import Derived.RegionTactic
namespace Go.Proofs.YtocepcibcapfbaaGreat
set_option linter.unusedVariables false
set_option linter.unusedSimpArgs false
open Go.RowKit

theorem u8_info : (Tryz.prog.info? 5).map (fun i => (i.zero, i.size, i.bytes)) = some (some (.int .u8 0), 1, 1) := by kernel_rfl

/-- v is a slice of bytes of the call's own (from block B on), or nil; its bytes are l. -/
def OB (w : World) (B : Nat) (v : Value) (l : List UInt8) : Prop := w.ownsRow B 5 1 v l.length (bvs l)
theorem OB.nil (w : World) (B : Nat) : OB w B (.slice none 0 0) [] := World.ownsRow_nil w B _ 1
theorem OB.form {w : World} {B : Nat} {v : Value} {l : List UInt8} (h : OB w B v l) :
    ∃ a cap, v = .slice a l.length cap ∧ Rd w a l.length l ∧ l.length ≤ cap ∧ (∀ p, a = some p → B ≤ p.block ∧ p.block < w.heap.size ∧ v.ownBlock = some p.block) ∧ (a = none → l = []) := by
  have h0 := h
  rcases h.2 with ⟨rfl, e⟩ | ⟨g, cap, cur, rfl, hb, hg, hnc, hcm, hcs, htake⟩
  · have hl : l = [] := List.eq_nil_of_length_eq_zero e
    subst hl
    exact ⟨none, 0, rfl, Rd.nil _ _, Nat.le_refl _, fun p h => by (cases h), fun _ => rfl⟩
  · refine ⟨_, cap, rfl, ⟨rfl, Nat.le_trans hnc hcm, fun i hi => ⟨_, rfl, ?_⟩⟩, hnc, fun p hp => ?_, fun h => by (cases h)⟩
    · exact h0.cells (g := g) rfl i _ (bvs_at l i hi)
    · cases hp
      exact ⟨hb, lt_of_block hg, rfl⟩
theorem OB.pos {w : World} {B : Nat} {v : Value} {l : List UInt8} (h : OB w B v l) (h0 : 0 < l.length) :
    ∃ g cap, v = .slice (some ⟨g, 0, none⟩) l.length cap ∧ B ≤ g ∧ g < w.heap.size ∧ Rd w (some ⟨g, 0, none⟩) l.length l ∧ l.length ≤ cap := by
  obtain ⟨g, cap, hv, hb, hg⟩ := World.ownsRow.form h h0
  obtain ⟨a, c, hv', hr, hc, _⟩ := h.form
  rw [hv] at hv'
  cases hv'
  exact ⟨g, cap, hv, hb, hg, hr, hc⟩
theorem OB.alloc {w : World} {B : Nat} {v : Value} {l : List UInt8} (h : OB w B v l) (o : Obj) : OB (w.alloc o) B v l := World.ownsRow.alloc h o
theorem Rd_lit (w : World) (t : TypeId) (l : List UInt8) {fr : Nat × Nat} (hl : l.length ≤ maxLen) : Rd (w.alloc (.cells (bvs l).toArray t fr)) (some ⟨w.heap.size, 0, none⟩) l.length l :=
  ⟨rfl, hl, fun i hi => ⟨_, rfl, by
    have hb : (w.alloc (.cells (bvs l).toArray t fr)).heap[w.heap.size]? = some (.cells (bvs l).toArray t fr) := alloc_new _ _ _ rfl
    have e : ((⟨w.heap.size, 0, none⟩ : Addr).add i) = ⟨w.heap.size, i, none⟩ := by unfold Addr.add; split <;> simp_all
    rw [e]
    simp only [World.cell?, hb]
    simpa using bvs_at l i hi⟩⟩
theorem Rd_one (w : World) (t : TypeId) (c : UInt8) : Rd (w.alloc (.cells #[.int .u8 (c.toNat : Int)] t)) (some ⟨w.heap.size, 0, none⟩) 1 [c] := Rd_lit w t [c] (by simp [maxLen])
theorem OB.mono {w : World} {B B' : Nat} {v : Value} {l : List UInt8} (h : OB w B v l) (hB : B' ≤ B) : OB w B' v l := by
  rcases h.2 with ⟨rfl, e⟩ | ⟨g, cap, cur, rfl, hbg, r⟩
  · exact ⟨h.1, .inl ⟨rfl, e⟩⟩
  · exact ⟨h.1, .inr ⟨g, cap, cur, rfl, by omega, r⟩⟩
theorem OB.len {w : World} {B n cap : Nat} {a : Option Addr} {l : List UInt8} (h : OB w B (.slice a n cap) l) : n = l.length := by
  rcases h.2 with ⟨e, h0⟩ | ⟨g', cap', cur, e, _⟩
  · cases e; exact h0.symm
  · cases e; rfl
theorem OB.grown {w wr w1 : World} {B : Nat} {v : Value} {l : List UInt8} (h : OB wr B v l) (hbl : Below B w wr) (hB : B ≤ wr.heap.size) (hg : wr.grownBy w1 v.ownBlock) : Below B w w1 :=
  hbl.grown hg hB (fun k hk => (World.ownsRow.lt h k hk).1)
/-- The run of 'append(v, x...)', bytes onto a row of the call's own. -/
theorem run_app (w : World) (ty : TypeId) (B : Nat) (v : Value) (l : List UInt8) (hown : OB w B v l) (A : Option Addr) (m c : Nat) (k : List UInt8) (hr : Rd w A m k)
    (hb : l.length + m ≤ 140737488355328) (hB : B ≤ w.heap.size) :
    ∃ v' w', (Builtin.append_ #[38, 38] ty #[v, .slice A m c]).run Tryz.prog w = .ok v' w' ∧ OB w' B v' (l ++ k) ∧ w.grownBy w' v.ownBlock ∧
      (v'.ownBlock = v.ownBlock ∨ v'.ownBlock = some w.heap.size) := by
  obtain ⟨i, hi, hz0, hz1, hz2⟩ := info_parts u8_info
  have hkl : k.length = m := hr.1
  rcases A with _ | p
  · have hk : k = [] := by
      rcases k with _ | ⟨x, k⟩
      · rfl
      · obtain ⟨p, e, _⟩ := hr.2.2 0 (by simp)
        cases e
    subst hk
    simp at hkl
    subst hkl
    refine ⟨v, w, ?_, by simpa using hown, World.grownBy.refl w _, .inl rfl⟩
    rcases hown.2 with ⟨rfl, e⟩ | ⟨g, cap, cur, rfl, _, _, hnc, _⟩
    · have hl : l = [] := List.eq_nil_of_length_eq_zero e
      subst hl
      simp [Builtin.append_, run_underlying Tryz.underlying38, sizeOf, typeInfo, hi, Builtin.lenOf, Builtin.firstCells]
    · simp [Builtin.append_, run_underlying Tryz.underlying38, sizeOf, typeInfo, hi, Builtin.lenOf, Builtin.firstCells, hnc, storeCells]
  · obtain ⟨v', w', e1, e2, e3, _, e5⟩ := run_append_own_at (P := Tryz.prog) w B 38 ty 5 i _ 1 1 Tryz.underlying38 hi hz0 hz1 hz2 rfl (by omega) v l.length (bvs l) hown p m c (bvs k)
      (by rw [bvs_length, hkl]; omega)
      (fun j u hu => by
        simp only [bvs, List.getElem?_map, Option.map_eq_some_iff] at hu
        obtain ⟨x, hx, rfl⟩ := hu
        obtain ⟨hj, rfl⟩ := List.getElem?_eq_some_iff.1 hx
        obtain ⟨q, e, hq⟩ := hr.2.2 j hj
        cases e
        exact hq)
      (bvs_one k) (by unfold maxLen; omega) (by omega) hB
    refine ⟨v', w', e1, ?_, e3, e5⟩
    unfold OB
    rw [List.length_append, hkl, bvs_append]
    exact e2

/-- At the operation, in a plain region. -/
theorem wpList_app (w : World) {ops : Array Oper} {rest : List Oper} {o : Oper} {a : Act} {Q : Exit → Act → World → Prop} (hgd : o.guard = none) (s x : Operand)
    (ho : o.op = .call { callee := .builtin .append, args := #[s, x], argTypes := #[38, 38] })
    (B : Nat) (v : Value) (l : List UInt8) (hs : a.eval s = v) (hown : OB w B v l) (A : Option Addr) (m c : Nat) (k : List UInt8) (hx : a.eval x = .slice A m c) (hr : Rd w A m k)
    (hb : l.length + m ≤ 140737488355328) (hB : B ≤ w.heap.size)
    (h : ∀ v' w', OB w' B v' (l ++ k) → w.grownBy w' v.ownBlock → (v'.ownBlock = v.ownBlock ∨ v'.ownBlock = some w.heap.size) → wpList Tryz.prog ops Q rest (a.put o.dst v') w') :
    wpList Tryz.prog ops Q (o :: rest) a w := by
  refine wpList_plain hgd fun K hK => ?_
  obtain ⟨v', w', e1, e2, e3, e4⟩ := run_app w o.type B v l hown A m c k hr hb hB
  unfold Oper.wp execOp
  simp only [ho, resolve, invoke, builtin, Sem.run_bind, Sem.run_pure, Result.andThen_ok, List.map_toArray, List.map_cons, List.map_nil, hs, hx, e1]
  exact hK _ _ (h v' w' e2 e3 e4)
/-- At the operation, in a region that draws its order. -/
theorem step_app (w : World) {ops : Array Oper} {o : Oper} {a : Act} {K : Act → World → Prop} {Q : Exit → Act → World → Prop} {E : Prop} (hgd : o.guard = none) (s x : Operand)
    (ho : o.op = .call { callee := .builtin .append, args := #[s, x], argTypes := #[38, 38] })
    (B : Nat) (v : Value) (l : List UInt8) (hs : a.eval s = v) (hown : OB w B v l) (A : Option Addr) (m c : Nat) (k : List UInt8) (hx : a.eval x = .slice A m c) (hr : Rd w A m k)
    (hb : l.length + m ≤ 140737488355328) (hB : B ≤ w.heap.size)
    (h : ∀ v' w', OB w' B v' (l ++ k) → w.grownBy w' v.ownBlock → (v'.ownBlock = v.ownBlock ∨ v'.ownBlock = some w.heap.size) → K (a.put o.dst v') w') :
    if Region.wanted o (yielded ops a.tmps) = true then Oper.wp Tryz.prog o a w K Q else E := by
  have hw : Region.wanted o (yielded ops a.tmps) = true := by simp [Region.wanted, hgd]
  rw [if_pos hw]
  obtain ⟨v', w', e1, e2, e3, e4⟩ := run_app w o.type B v l hown A m c k hr hb hB
  unfold Oper.wp execOp
  simp only [ho, resolve, invoke, builtin, Sem.run_bind, Sem.run_pure, Result.andThen_ok, List.map_toArray, List.map_cons, List.map_nil, hs, hx, e1]
  exact h v' w' e2 e3 e4
end Go.Proofs.YtocepcibcapfbaaGreat
