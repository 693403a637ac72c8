/- Steps over values of many cells: built, made, loaded, stored. -/
import Derived.Test.YtocepcibcapfbaaGreatJ04
import Derived.Lib.ReflectliteSwap
import Derived.Laws.CopyOwn
import Derived.Laws.Rows
import Derived.Great.BuildSlice
import Derived.Deep.RegionHeld3
namespace Go.Proofs.YtocepcibcapfbaaGreat
set_option linter.unusedVariables false
set_option linter.unusedSimpArgs false
open Go.RowKit

theorem wpList_skp {P : Program} {ops : Array Oper} {rest : List Oper} {o : Oper} {a : Act} {w w' : World} {Q : Exit → Act → World → Prop} (hgd : o.guard = none) (hr : (execOp a.eval o).run P w = .ok .skip w')
    (h : wpList P ops Q rest (a.put o.dst undef) w') : wpList P ops Q (o :: rest) a w :=
  wpList_plain hgd fun _ hK => by unfold Oper.wp; rw [hr]; exact hK _ _ h
theorem step_val {P : Program} {ops : Array Oper} {o : Oper} {a : Act} {w w' : World} {K : Act → World → Prop} {Q : Exit → Act → World → Prop} {E : Prop} (hgd : o.guard = none) (v : Value) (hr : (execOp a.eval o).run P w = .ok (.value v) w')
    (h : K (a.put o.dst v) w') : if Region.wanted o (yielded ops a.tmps) = true then Oper.wp P o a w K Q else E := by
  rw [if_pos (show Region.wanted o (yielded ops a.tmps) = true by simp [Region.wanted, hgd])]
  unfold Oper.wp
  rw [hr]
  exact h
theorem x_load {P : Program} {o : Oper} {ρ : Operand → Value} {w : World} {ty : TypeId} {x : Operand} (ho : o.op = .load ty x) (b off : Nat) (hx : ρ x = .pointer (some ⟨b, off, none⟩)) (k : Nat)
    (hie : (P.info? ty).map (·.size) = some k) (hagg : ∀ w, (isAgg ty).run P w = .ok true w) (vs : List Value) (hs : vs.length = k) (hc : ∀ k v, vs[k]? = some v → w.cell? ⟨b, off + k, none⟩ = some v) :
    (execOp ρ o).run P w = .ok (.value (.agg vs.toArray)) w := by
  obtain ⟨ie, hie2, rfl⟩ := Option.map_eq_some_iff.1 hie
  unfold execOp
  simp only [ho, hx, Instr.loadAt, Instr.sureAddr, Sem.run_bind, Sem.run_pure, Result.andThen_ok, Go.Lib.rl_loadVar_cells ty ie hie2 hagg b off vs hs w hc]
theorem setRow_chg (w : World) (g : Nat) (cs : Array Value) : Chg (fun k => k = g) w (w.setRow g cs) :=
  ⟨rfl, rfl, rfl, by simp [World.setRow], fun k hk hS => setRow_other w g k cs hS⟩
theorem wpStill_val {P : Program} {ops : Array Oper} {rest : List Oper} {o : Oper} {a : Act} {w : World} {Q : Act → Prop} (hgd : o.guard = none) (v : Value) (hr : (execOp a.eval o).run P w = .ok (.value v) w)
    (h : wpStill P ops w Q rest (a.put o.dst v)) : wpStill P ops w Q (o :: rest) a :=
  wpStill_step fun K hK => by
    rw [if_pos (show Region.wanted o (yielded ops a.tmps) = true by simp [Region.wanted, hgd])]
    unfold Oper.still
    rw [hr]
    exact ⟨rfl, hK _ h⟩
/-- A value of several cells, stored into a block. -/
theorem x_store {P : Program} {o : Oper} {ρ : Operand → Value} {w : World} {ty : TypeId} {x y : Operand} (ho : o.op = .store ty x y) (g off : Nat) (hx : ρ x = .pointer (some ⟨g, off, none⟩)) (vs : List Value) (hy : ρ y = .agg vs.toArray) (k : Nat)
    (hie : (P.info? ty).map (·.size) = some k) (hs : vs.length = k) (h1 : ∀ v ∈ vs, v.oneCell' = true) (cur : List Value) (t : TypeId) (hg : w.heap[g]? = some (.cells cur.toArray t (0, 0))) (hfit : off + k ≤ cur.length) :
    ∃ w', (execOp ρ o).run P w = .ok .skip w' ∧ w'.heap[g]? = some (.cells (splice cur off vs).toArray t (0, 0)) ∧ Chg (fun k => k = g) w w' := by
  obtain ⟨ie, hie2, rfl⟩ := Option.map_eq_some_iff.1 hie
  have hst := run_storeCells_at P g off t vs 0 cur.toArray w hg (by simp; omega) h1
  rw [show (cur.toArray.toList.take (off + 0) ++ vs ++ cur.toArray.toList.drop (off + 0 + vs.length)).toArray = (splice cur off vs).toArray by simp [splice]] at hst
  refine ⟨w.setRow g (splice cur off vs).toArray, ?_, setRow_heap w g _ _ t (0, 0) hg, setRow_chg w g _⟩
  have h2 : (storeVar ty ⟨g, off, none⟩ (.agg vs.toArray)).run P w = .ok () (w.setRow g (splice cur off vs).toArray) := by
    simp [storeVar, sizeOf, typeInfo, hie2, Value.cells, hs]
    exact hst
  unfold execOp
  simp only [ho, hx, hy, Instr.storeAt, Instr.sureAddr, Sem.run_bind, Sem.run_pure, Result.andThen_ok, h2]
/-- A slice of one value of several cells. -/
theorem x_slice1 {P : Program} {o : Oper} {ρ : Operand → Value} {w : World} {t e : TypeId} {x : Operand} (ho : o.op = .buildSlice t 1 #[(0, x)]) (vs : List Value) (hx : ρ x = .agg vs.toArray) (hu : P.underlying t = some (.slice e)) (k : Nat)
    (hie : ∃ z, (P.info? e).map (fun i => (i.zero, i.size)) = some (some z, k)) (hs : vs.length = k) (h0 : 0 < k) (h1 : k ≤ 100000) :
    (execOp ρ o).run P w = .ok (.value (.slice (some ⟨w.heap.size, 0, none⟩) 1 1)) (w.alloc (.cells vs.toArray e)) := by
  obtain ⟨z, hz⟩ := hie
  obtain ⟨ie, hie2, hz2⟩ := Option.map_eq_some_iff.1 hz
  injection hz2 with hz3 hz4
  subst hz4
  unfold execOp
  have hf := Go.Great.fill_whole h0 [Value.agg vs.toArray] ((Array.range (1 * ie.size)).map (z.cells[· % z.cells.size]!)) (by intro v hv; simp at hv; subst hv; simpa [Value.cells] using hs) (by simp)
  have h := run_buildSlice (P := P) w t e 1 #[(0, Value.agg vs.toArray)] vs.toArray ie z hu hie2 hz3 (by omega) (by omega) (by simpa [Value.cells] using hf)
  simp only [ho, Array.map, hx]
  simp [hx, h, Result.andThen]
/-- In a region that draws its order: what comes up is done. -/
theorem any_do {P : Program} {ops : Array Oper} {Q : Exit → Act → World → Prop} {md : Region.Mode} {fuel : Nat} {listed : Array Bool} {a : Act} {w w' : World} (i : Nat) {o : Oper} (hi : ops[i]? = some o) (hr : Region.ready md ops listed = [i]) (hgd : o.guard = none) (v : Value)
    (hrun : (execOp a.eval o).run P w = .ok (.value v) w') (h : wpAny P md ops Q fuel (listed.setIfInBounds i true) (a.put o.dst v) w') : wpAny P md ops Q (fuel + 1) listed a w :=
  wpAny_ready hr (by simp) (AllReady.cons hi (fun K' hK => step_val hgd v hrun (hK _ _ h)) AllReady.nil)
theorem any_do2 {P : Program} {ops : Array Oper} {Q : Exit → Act → World → Prop} {md : Region.Mode} {fuel : Nat} {listed : Array Bool} {a : Act} {w w1 w2 : World} (i j : Nat) {o o' : Oper} (hi : ops[i]? = some o) (hj : ops[j]? = some o') (hr : Region.ready md ops listed = [i, j]) (hgd : o.guard = none) (hgd' : o'.guard = none) (v v' : Value)
    (hrun : (execOp a.eval o).run P w = .ok (.value v) w1) (hrun' : (execOp a.eval o').run P w = .ok (.value v') w2) (h : wpAny P md ops Q fuel (listed.setIfInBounds i true) (a.put o.dst v) w1) (h' : wpAny P md ops Q fuel (listed.setIfInBounds j true) (a.put o'.dst v') w2) : wpAny P md ops Q (fuel + 1) listed a w :=
  wpAny_ready hr (by simp) (AllReady.cons hi (fun K' hK => step_val hgd v hrun (hK _ _ h)) (AllReady.cons hj (fun K' hK => step_val hgd' v' hrun' (hK _ _ h')) AllReady.nil))
theorem any_skip {P : Program} {ops : Array Oper} {Q : Exit → Act → World → Prop} {md : Region.Mode} {fuel : Nat} {listed : Array Bool} {a : Act} {w w' : World} (i : Nat) {o : Oper} (hi : ops[i]? = some o) (hr : Region.ready md ops listed = [i]) (hgd : o.guard = none)
    (hrun : (execOp a.eval o).run P w = .ok .skip w') (h : wpAny P md ops Q fuel (listed.setIfInBounds i true) (a.put o.dst undef) w') : wpAny P md ops Q (fuel + 1) listed a w :=
  wpAny_ready hr (by simp) (AllReady.cons hi (fun K' hK => by
    rw [if_pos (show Region.wanted o (yielded ops a.tmps) = true by simp [Region.wanted, hgd])]
    unfold Oper.wp
    rw [hrun]
    exact hK _ _ h) AllReady.nil)
/-- One cell is stored. -/
theorem x_store1 {P : Program} {o : Oper} {ρ : Operand → Value} {w : World} {ty : TypeId} {x y : Operand} (ho : o.op = .store ty x y) (p : Addr) (hx : ρ x = .pointer (some p)) (v old : Value) (hy : ρ y = v) (hie : (P.info? ty).map (·.size) = some 1) (hcs : v.cells = #[v]) (hv : v.oneCell' = true)
    (hc : w.cell? p = some old) (hf : w.frozen? p = false) : (execOp ρ o).run P w = .ok .skip (w.setCell p v) := by
  obtain ⟨ie, hie2, hsz⟩ := Option.map_eq_some_iff.1 hie
  unfold execOp
  have h := run_store P w p v .plain hv
  simp [ho, hx, hy, Instr.storeAt, Instr.sureAddr, storeVar, sizeOf, typeInfo, hie2, hsz, hcs, storeCells, Addr.add_zero', run_store P w p v _ hv, hc, hf, Result.andThen]
theorem lt_noof {n m cap b : Nat} (hb : (n + m) * b ≤ 140737488355328) (hg : cap < n + m) : Builtin.nextslicecap (n + m) cap * b ≤ 281474976710656 := Go.growslice_fits (by omega) hb
/-- What append turns: its own row at most, which keeps its kind. -/
theorem run_appT {ts t : TypeId} {s by_ : Nat} (T : SlT ts t s by_) (w : World) (ty : TypeId) (B : Nat) (v : Value) (n : Nat) (l : List Value) (hown : OV w B t s v n l) (A : Option Addr) (m c : Nat) (k : List Value)
    (hr : RV w A m s k) (h1 : ∀ u ∈ k, u.oneCell' = true) (hb : (n + m) * by_ ≤ 140737488355328) (hm : n + m ≤ 140737488355328) (hB : B ≤ w.heap.size) :
    ∃ v' w', (Builtin.append_ #[ts, ts] ty #[v, .slice A m c]).run Tryz.prog w = .ok v' w' ∧ OV w' B t s v' (n + m) (l ++ k) ∧ w.grownBy w' v.ownBlock ∧
      (v'.ownBlock = v.ownBlock ∨ v'.ownBlock = some w.heap.size) ∧ Ty B (fun u => u = some t) w w' := by
  obtain ⟨v', w', e1, e2, e3, e4⟩ := run_appV T w ty B v n l hown A m c k hr h1 hb hm hB
  refine ⟨v', w', e1, e2, e3, e4, ?_⟩
  obtain ⟨z, hz, hzs⟩ := T.info
  obtain ⟨i, hi, hz0, rfl, rfl⟩ := info_parts hz
  have hkl : k.length = m * i.size := hr.1
  have hsp := T.pos
  have hal : ∀ o : Obj, Ty B (fun u => u = some t) w (w.drew.alloc o) := fun o => (Ty.refl B _ w).drew.alloc o
  rcases A with _ | p
  · have hm0 : m = 0 := by
      rcases k with _ | ⟨x, k⟩
      · rcases Nat.eq_zero_or_pos m with h | h
        · exact h
        · have := Nat.mul_pos h hsp; simp at hkl; omega
      · obtain ⟨p, e, _⟩ := hr.2.2 0 (by simp)
        cases e
    subst hm0
    have h : (Builtin.append_ #[ts, ts] ty #[v, .slice none 0 c]).run Tryz.prog w = .ok v w := by
      rcases hown.2 with ⟨rfl, e⟩ | ⟨g, cap, cur, rfl, _, _, hnc, _⟩
      · simp [Builtin.append_, run_underlying T.und, sizeOf, typeInfo, hi, Builtin.lenOf, Builtin.firstCells]
      · simp [Builtin.append_, run_underlying T.und, sizeOf, typeInfo, hi, Builtin.lenOf, Builtin.firstCells, hnc, storeCells]
    rw [h] at e1
    cases e1
    exact Ty.refl _ _ _
  · have hsrc : ∀ j u, k[j]? = some u → w.cell? (p.add j) = some u := fun j u hu => by
      obtain ⟨hj, rfl⟩ := List.getElem?_eq_some_iff.1 hu
      obtain ⟨q, e, hq⟩ := hr.2.2 j hj
      cases e
      exact hq
    rcases hown.2 with ⟨rfl, e⟩ | ⟨g, cap, cur, rfl, hbg, hg, hnc, hcm, hcs, htake⟩
    · subst e
      rcases Nat.eq_zero_or_pos m with h | h
      · subst h
        have hk : k = [] := List.eq_nil_of_length_eq_zero (by simpa using hkl)
        subst hk
        have h : (Builtin.append_ #[ts, ts] ty #[.slice none 0 0, .slice (some p) 0 c]).run Tryz.prog w = .ok (.slice none 0 0) w := by
          simp [Builtin.append_, run_underlying T.und, sizeOf, typeInfo, hi, Builtin.lenOf, Builtin.firstCells, loadCells, loadCellsFrom]
        rw [h] at e1
        cases e1
        exact Ty.refl _ _ _
      · have h := run_append_nil (P := Tryz.prog) w ts ty t i z T.und hi hz0 p m c k hkl hsrc h (by omega) (by rw [Nat.zero_add] at hb; omega)
        rw [h] at e1
        cases e1
        exact hal _
    · by_cases hroom : n + m ≤ cap
      · have h := run_append_room (P := Tryz.prog) w ts ty t i T.und hi g n cap cur hg p m c k hkl hsrc h1 hroom (by rw [hkl, hcs, ← Nat.add_mul]; exact Nat.mul_le_mul_right _ hroom)
        rw [h] at e1
        cases e1
        exact (Ty.of_chg (setRow_chg w g _) hg (setRow_heap w g cur _ t _ hg)).mono hbg (fun _ h => h)
      · have h := run_append_grow (P := Tryz.prog) w ts ty t i z T.und hi hz0 ⟨g, 0, none⟩ n cap l hown.1 (hown.cells (g := g) rfl) p m c k hkl hsrc (by omega) (by omega) (lt_noof hb (by omega))
        rw [h] at e1
        cases e1
        exact hal _
/-- At the operation, in a region that draws its order: the kinds stay. -/
theorem step_appT {ts t : TypeId} {s by_ : Nat} (T : SlT ts t s by_) (w : World) {ops : Array Oper} {o : Oper} {a : Act} {K : Act → World → Prop} {Q : Exit → Act → World → Prop} {E : Prop} (hgd : o.guard = none) (so x : Operand)
    (ho : o.op = .call { callee := .builtin .append, args := #[so, x], argTypes := #[ts, ts] })
    (B : Nat) (v : Value) (n : Nat) (l : List Value) (hs : a.eval so = v) (hown : OV w B t s v n l) (A : Option Addr) (m c : Nat) (k : List Value) (hx : a.eval x = .slice A m c) (hr : RV w A m s k) (h1 : ∀ u ∈ k, u.oneCell' = true)
    (hb : (n + m) * by_ ≤ 140737488355328) (hm : n + m ≤ 140737488355328) (hB : B ≤ w.heap.size)
    (h : ∀ v' w', OV w' B t s v' (n + m) (l ++ k) → w.grownBy w' v.ownBlock → (v'.ownBlock = v.ownBlock ∨ v'.ownBlock = some w.heap.size) → Ty B (fun u => u = some t) w w' → K (a.put o.dst v') w') :
    if Region.wanted o (yielded ops a.tmps) = true then Oper.wp Tryz.prog o a w K Q else E := by
  have hw : Region.wanted o (yielded ops a.tmps) = true := by simp [Region.wanted, hgd]
  rw [if_pos hw]
  obtain ⟨v', w', e1, e2, e3, e4, e5⟩ := run_appT T w o.type B v n l hown A m c k hr h1 hb hm hB
  unfold Oper.wp execOp
  simp only [ho, resolve, invoke, builtin, Sem.run_bind, Sem.run_pure, Result.andThen_ok, List.map_toArray, List.map_cons, List.map_nil, hs, hx, e1]
  exact h v' w' e2 e3 e4 e5
theorem x_append {P : Program} {o : Oper} {ρ : Operand → Value} {w w' : World} {ts : TypeId} {so x : Operand} (ho : o.op = .call { callee := .builtin .append, args := #[so, x], argTypes := #[ts, ts] }) (v s y : Value) (hs : ρ so = s) (hx : ρ x = y)
    (h : (Builtin.append_ #[ts, ts] o.type #[s, y]).run P w = .ok v w') : (execOp ρ o).run P w = .ok (.value v) w' := by
  unfold execOp
  simp only [ho, resolve, invoke, builtin, Sem.run_bind, Sem.run_pure, Result.andThen_ok, List.map_toArray, List.map_cons, List.map_nil, hs, hx, h]
theorem x_len {P : Program} {o : Oper} {ρ : Operand → Value} {w : World} {t : TypeId} {x : Operand} (ho : o.op = .call { callee := .builtin .len, args := #[x], argTypes := #[t] }) (v y : Value) (hx : ρ x = y) (h : (Builtin.len_ #[t] o.type #[y]).run P w = .ok v w) : (execOp ρ o).run P w = .ok (.value v) w := by
  unfold execOp
  simp only [ho, resolve, invoke, builtin, Sem.run_bind, Sem.run_pure, Result.andThen_ok, List.map_toArray, List.map_cons, List.map_nil, hx, h]
theorem x_look {P : Program} {o : Oper} {ρ : Operand → Value} {w : World} {t : TypeId} {m k : Operand} {ok : Bool} (ho : o.op = .lookup t m k ok) {mv kv v : Value} (hm : ρ m = mv) (hk : ρ k = kv) (h : (Instr.lookup t mv kv ok).run P w = .ok v w) : (execOp ρ o).run P w = .ok (.value v) w := by
  unfold execOp
  simp only [ho, hm, hk, Sem.run_bind, Sem.run_pure, Result.andThen_ok, h]
/-- A cell, loaded. -/
theorem x_load1 {P : Program} {o : Oper} {ρ : Operand → Value} {w : World} {ty : TypeId} {x : Operand} (ho : o.op = .load ty x) (p : Addr) (hx : ρ x = .pointer (some p)) (hagg : ∀ w, (isAgg ty).run P w = .ok false w) (v : Value) (hc : w.cell? p = some v) :
    (execOp ρ o).run P w = .ok (.value v) w := by
  unfold execOp
  simp [ho, hx, Instr.loadAt, Instr.sureAddr, loadVar, hagg, run_load, hc, Result.andThen]
theorem wpList_storeC {P : Program} {ops : Array Oper} {rest : List Oper} {o : Oper} {a : Act} {w : World} {Q : Exit → Act → World → Prop} (hgd : o.guard = none) {ty : TypeId} {x y : Operand} (ho : o.op = .store ty x y) (g off : Nat) (hx : a.eval x = .pointer (some ⟨g, off, none⟩)) (vs : List Value) (hy : a.eval y = .agg vs.toArray) (k : Nat)
    (hie : (P.info? ty).map (·.size) = some k) (hs : vs.length = k) (h1 : ∀ v ∈ vs, v.oneCell' = true) (cur : List Value) (t : TypeId) (hg : w.heap[g]? = some (.cells cur.toArray t (0, 0))) (hfit : off + k ≤ cur.length)
    (h : ∀ w', w'.heap[g]? = some (.cells (splice cur off vs).toArray t (0, 0)) → Chg (fun k => k = g) w w' → wpList P ops Q rest (a.put o.dst undef) w') : wpList P ops Q (o :: rest) a w := by
  obtain ⟨w', h2, h3, h4⟩ := x_store (ρ := a.eval) ho g off hx vs hy k hie hs h1 cur t hg hfit
  exact wpList_skp hgd h2 (h w' h3 h4)
end Go.Proofs.YtocepcibcapfbaaGreat
