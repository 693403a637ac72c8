/- Law 9: the document's outcomes are appended to. -/
import Derived.Test.YtocepcibcapfbaaGreatJ49
import Derived.ArgAppend
namespace Go.Proofs.YtocepcibcapfbaaGreat
set_option linter.unusedVariables false
set_option linter.unusedSimpArgs false
set_option linter.unusedSectionVars false
open Go.RowKit

theorem setCells_blk (g : Nat) : ∀ (vs : List Value) (o : Nat) (w : World) (C : Array Value) (t : TypeId) (fr : Nat × Nat), w.heap[g]? = some (.cells C t fr) → Chg (fun k => k = g) w (w.setCells g o vs) ∧ ∃ C' : Array Value, (w.setCells g o vs).heap[g]? = some (.cells C' t fr) ∧ C'.size = C.size
  | [], _, w, C, _, _, h => ⟨Chg.refl _ w, C, h, rfl⟩
  | v :: r, o, w, C, t, fr, h => by
    have h1 := blk_setCell h o v
    obtain ⟨h2, C', h3, h4⟩ := setCells_blk g r (o + 1) (w.setCell ⟨g, o, none⟩ v) _ t fr h1
    exact ⟨((Chg.refl (fun k => k = g) w).setCell ⟨g, o, none⟩ v (.inr rfl)).trans h2, C', h3, by rw [h4, Array.size_setIfInBounds]⟩
/-- What an append to the outcomes leaves. -/
def OutA (I : Inhabited AvT) (B : Nat) (l : List UInt8) (w : World) (v : Value) (w' : World) : Prop :=
  ∃ (I' : Inhabited AvT) (ao : Option Addr) (no co : Nat), v = .slice ao no co ∧ AvC I I' w w' ∧ @OutV I' B w' ao no co l ∧ Ty B (fun t => t = some 5) w w'
theorem AvC.refl {I : Inhabited AvT} {w : World} (h : ∀ k, @av I k → k < w.heap.size) : AvC I I w w := ⟨Ty.refl _ _ _, fun k _ hn => ⟨rfl, hn⟩, h⟩
set_option maxRecDepth 100000 in
theorem run_out {I : Inhabited AvT} (w : World) (ty : TypeId) (B : Nat) (ao : Option Addr) (no co : Nat) (l : List UInt8) (ho : @OutV I B w ao no co l) (hav : ∀ k, @av I k → k < w.heap.size) (hB : B ≤ w.heap.size) (A : Option Addr) (m c : Nat) (k : List UInt8) (hr : Rd w A m k) (hb : no + m ≤ 1000000) :
    ∃ v' w', (Builtin.append_ #[38, 38] ty #[.slice ao no co, .slice A m c]).run Tryz.prog w = .ok v' w' ∧ OutA I B (l ++ k) w v' w' := by
  obtain ⟨i, hi, hz0, hz1, hz2⟩ := info_parts u8_info
  obtain ⟨h1, h2, h3⟩ := ho
  have hkl : k.length = m := hr.1
  have hll : l.length = no := h1.1
  have hfresh : ∀ (v' : Value) (w' : World), OB w' w.heap.size v' (l ++ k) → Below w.heap.size w w' → 0 < (l ++ k).length → OutA I B (l ++ k) w v' w' := fun v' w' hob hbl h0 => by
    obtain ⟨g, cap, rfl, hbg, hgl, hrd, hcap⟩ := hob.pos h0
    have hrow : ∃ C : Array Value, w'.heap[g]? = some (.cells C 5 (0, 0)) ∧ C.size = cap ∧ cap ≤ maxLen := by
      rcases hob.2 with ⟨e, -⟩ | ⟨g', cap', cur, e, -, hg, -, hm, hcs, -⟩
      · cases e
      · cases e
        exact ⟨cur, hg, by simpa using hcs, hm⟩
    obtain ⟨C, hC, hCs, hcm⟩ := hrow
    refine ⟨⟨⟨fun k => k = g⟩⟩, _, _, _, rfl, ⟨Ty.of_below hbl, fun k hk _ => ⟨hbl.block k hk, fun e => ?_⟩, fun k e => ?_⟩, ⟨hrd, ⟨hcap, hcm⟩, fun _ => ⟨g, 0, C, rfl, rfl, by omega, hC, by omega⟩⟩, Ty.of_below hbl⟩
    · have e' : k = g := e
      omega
    · have e' : k = g := e
      rw [e']
      exact hgl
  by_cases hm0 : m = 0
  · -- nothing is appended
    have hk : k = [] := List.eq_nil_of_length_eq_zero (by omega)
    subst hk
    subst hm0
    refine ⟨.slice ao no co, w, ?_, I, ao, no, co, rfl, AvC.refl hav, by rw [List.append_nil]; exact ⟨h1, h2, h3⟩, Ty.refl _ _ _⟩
    rcases A with _ | p
    · simp [Builtin.append_, run_underlying Tryz.underlying38, sizeOf, typeInfo, hi, Builtin.lenOf, Builtin.firstCells, h2.1, storeCells]
      cases ao <;> rfl
    · simp [Builtin.append_, run_underlying Tryz.underlying38, sizeOf, typeInfo, hi, Builtin.lenOf, Builtin.firstCells, h2.1, loadCells, loadCellsFrom, storeCells]
      cases ao <;> rfl
  obtain ⟨p, rfl, hp⟩ := hr.ptr (by omega)
  have hnews : ∀ j u, (bvs k)[j]? = some u → w.cell? (p.add j) = some u := fun j u hu => by
    simp only [bvs, List.getElem?_map, Option.map_eq_some_iff] at hu
    obtain ⟨x, hx, rfl⟩ := hu
    obtain ⟨hj, rfl⟩ := List.getElem?_eq_some_iff.1 hx
    exact hp j hj
  by_cases hroom : no + m ≤ co
  · obtain ⟨g, off, C, rfl, hag, hBg, hC, hsz⟩ := h3 (by omega)
    have hsome : ∀ j, j < C.size → (w.cell? ⟨g, j, none⟩).isSome = true := fun j hj => by rw [cell_blk hC]; simp [hj]
    have hrun := run_append_room_cells (P := Tryz.prog) w 38 ty 5 i Tryz.underlying38 hi g off no co p m c (bvs k) (by rw [bvs_length, hz1]; omega) hnews (bvs_one k) hroom
      (fun j hj => by rw [hz1]; rw [bvs_length] at hj; exact hsome _ (by omega)) (fun j hj => free_blk hC _)
    rw [hz1, Nat.mul_one] at hrun
    obtain ⟨hch, C', hC', hCs⟩ := setCells_blk g (bvs k) (off + no) w C _ _ hC
    have ht : Ty g (fun t => t = some 5) w (w.setCells g (off + no) (bvs k)) := Ty.of_chg hch hC hC'
    refine ⟨_, _, hrun, I, _, _, _, rfl, ⟨ht.mono (Nat.zero_le _) (fun _ h => h), fun j hj hn => ⟨hch.block j hj (fun e => hn (e ▸ hag)), hn⟩, fun j hj => Nat.lt_of_lt_of_le (hav j hj) hch.size⟩, ⟨?_, ⟨hroom, h2.2⟩, fun _ => ⟨g, off, C', rfl, hag, hBg, hC', by omega⟩⟩, ht.mono hBg (fun _ h => h)⟩
    refine ⟨by rw [List.length_append]; omega, by omega, fun j hj => ⟨_, rfl, ?_⟩⟩
    rw [Addr.add_lit]
    by_cases hjn : j < no
    · rw [World.cell?_setCells_out g (bvs k) (off + no) w ⟨g, off + j, none⟩ (fun _ _ => .inl (by show off + j < off + no; omega))]
      obtain ⟨p', e, hp'⟩ := h1.at j (by omega)
      cases e
      rw [Addr.add_lit] at hp'
      rw [hp', List.getElem_append_left (by omega)]
    · have hjk : j - no < (bvs k).length := by rw [bvs_length]; rw [List.length_append] at hj; omega
      have h5 := World.cell?_setCells_in g (bvs k) (off + no) w (fun j hj => by rw [bvs_length] at hj; exact hsome _ (by omega)) (j - no) hjk
      rw [show off + no + (j - no) = off + j by omega] at h5
      rw [h5, List.getElem_append_right (by omega)]
      simp [bvs, hll]
  · -- a new row
    rcases ao with _ | b
    · have hco : co = 0 := by
        rcases Nat.eq_zero_or_pos co with h | h
        · exact h
        · obtain ⟨g, off, C, e, -⟩ := h3 h
          cases e
      have hno : no = 0 := by omega
      subst hco
      subst hno
      have hl : l = [] := List.eq_nil_of_length_eq_zero hll
      subst hl
      obtain ⟨v', w', e1, e2, e3, -⟩ := run_app w ty w.heap.size (.slice none 0 0) [] (OB.nil _ _) (some p) m c k hr (by simp; omega) (Nat.le_refl _)
      have hbl : Below w.heap.size w w' := (OB.nil w w.heap.size).grown (Below.refl _ _) (Nat.le_refl _) e3
      exact ⟨v', w', e1, hfresh v' w' e2 hbl (by simp; omega)⟩
    · have holds : ∀ j u, (bvs l)[j]? = some u → w.cell? (b.add j) = some u := fun j u hu => by
        simp only [bvs, List.getElem?_map, Option.map_eq_some_iff] at hu
        obtain ⟨x, hx, rfl⟩ := hu
        obtain ⟨hj, rfl⟩ := List.getElem?_eq_some_iff.1 hx
        obtain ⟨q, e, hq⟩ := h1.at j hj
        cases e
        exact hq
      obtain ⟨v', w', e1, e2, e3⟩ := run_append_arg_grows (P := Tryz.prog) w 38 ty 5 i (.int .u8 0) 1 1 Tryz.underlying38 hi hz0 hz1 hz2 rfl (by omega) b no co (bvs l) (by rw [bvs_length]; omega) holds p m c (bvs k) (by rw [bvs_length]; omega) hnews (by omega) (by unfold maxLen; omega) (by omega)
      have hbl : Below w.heap.size w w' := ⟨e3.os, e3.tape, e3.output, e3.size, fun j hj => e3.block j hj (by simp)⟩
      refine ⟨v', w', e1, hfresh v' w' ?_ hbl (by simp; omega)⟩
      unfold OB
      rw [List.length_append, hll, hkl, bvs_append]
      exact e2
/-- At the operation, in a region that draws its order. -/
theorem step_out {I : Inhabited AvT} (w : World) {ops : Array Oper} {o : Oper} {a : Act} {K : Act → World → Prop} {Q : Exit → Act → World → Prop} {E : Prop} (hgd : o.guard = none) (so x : Operand)
    (ho : o.op = .call { callee := .builtin .append, args := #[so, x], argTypes := #[38, 38] })
    (B : Nat) (ao : Option Addr) (no co : Nat) (l : List UInt8) (hs : a.eval so = .slice ao no co) (hown : @OutV I B w ao no co l) (hav : ∀ k, @av I k → k < w.heap.size) (hB : B ≤ w.heap.size) (A : Option Addr) (m c : Nat) (k : List UInt8) (hx : a.eval x = .slice A m c) (hr : Rd w A m k) (hb : no + m ≤ 1000000)
    (h : ∀ v' w', OutA I B (l ++ k) w v' w' → K (a.put o.dst v') w') :
    if Region.wanted o (yielded ops a.tmps) = true then Oper.wp Tryz.prog o a w K Q else E := by
  have hw : Region.wanted o (yielded ops a.tmps) = true := by simp [Region.wanted, hgd]
  rw [if_pos hw]
  obtain ⟨v', w', e1, e2⟩ := run_out w o.type B ao no co l hown hav hB A m c k hr hb
  unfold Oper.wp execOp
  simp only [ho, resolve, invoke, builtin, Sem.run_bind, Sem.run_pure, Result.andThen_ok, List.map_toArray, List.map_cons, List.map_nil, hs, hx, e1]
  exact h v' w' e2
end Go.Proofs.YtocepcibcapfbaaGreat
