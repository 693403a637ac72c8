/- The walk of chapter 11: Cut. -/
import Derived.Test.YtpdmhnppibfmkaaChE
import Derived.Test.YtpdmhnppibfmkaaPgH
namespace Go.Proofs.Ytpdmhnppibfmkaa
set_option linter.unusedVariables false
set_option linter.unusedSimpArgs false
open Go.RowKit Go.Shelf
attribute [local go_sem] Oper.semAt_some

theorem rowsT : SlT 57 24 1 24 := ⟨Try.underlying57, ⟨.slice none 0 0, by kernel_rfl, rfl⟩, by omega⟩
/-- v is a row of rows of bytes, each of them the call's own, from block n on. -/
def OL (w : World) (n : Nat) (v : Value) (L : List (List UInt8)) : Prop := ∃ vs, OV w n 24 1 v L.length vs ∧ vs.length = L.length ∧ ∀ (i : Nat) (u : Value) (k : List UInt8), vs[i]? = some u → L[i]? = some k → OB w n u k
theorem OL.nil (w : World) (n : Nat) : OL w n (.slice none 0 0) [] := ⟨[], OV.nil _ _ _ _, rfl, fun i u k h => by simp at h⟩
theorem OL.mono {w : World} {n n' : Nat} {v : Value} {L : List (List UInt8)} (h : OL w n v L) (hn : n' ≤ n) : OL w n' v L := by
  obtain ⟨vs, h1, h2, h3⟩ := h
  exact ⟨vs, h1.mono hn, h2, fun i u k a b => (h3 i u k a b).mono hn⟩
theorem OB.base {w : World} {n : Nat} {v : Value} {l : List UInt8} (h : OB w n v l) (k : Nat) (hk : v.ownBlock = some k) : n ≤ k := by
  rcases h.2 with ⟨rfl, _⟩ | ⟨g, cap, cur, rfl, hb, _⟩
  · simp [Value.ownBlock] at hk
  · simp [Value.ownBlock] at hk
    omega
theorem OV.base {w : World} {n : Nat} {t : TypeId} {s : Nat} {v : Value} {m : Nat} {l : List Value} (h : OV w n t s v m l) (k : Nat) (hk : v.ownBlock = some k) : n ≤ k := by
  rcases h.2 with ⟨rfl, _⟩ | ⟨g, cap, cur, rfl, hb, _⟩
  · simp [Value.ownBlock] at hk
  · simp [Value.ownBlock] at hk
    omega
theorem OB.cells {w : World} {n : Nat} {v : Value} {l : List UInt8} (h : OB w n v l) (k : Nat) (hk : v.ownBlock = some k) : ∃ cur, w.heap[k]? = some (.cells cur 5 (0, 0)) := by
  rcases h.2 with ⟨rfl, _⟩ | ⟨g, cap, cur, rfl, hb, hg, _⟩
  · simp [Value.ownBlock] at hk
  · simp [Value.ownBlock] at hk
    subst hk
    exact ⟨cur, hg⟩
theorem OV.cells {w : World} {n : Nat} {t : TypeId} {s : Nat} {v : Value} {m : Nat} {l : List Value} (h : OV w n t s v m l) (k : Nat) (hk : v.ownBlock = some k) : ∃ cur, w.heap[k]? = some (.cells cur t (0, 0)) := by
  rcases h.2 with ⟨rfl, _⟩ | ⟨g, cap, cur, rfl, hb, hg, _⟩
  · simp [Value.ownBlock] at hk
  · simp [Value.ownBlock] at hk
    subst hk
    exact ⟨cur, hg⟩
theorem OB.kept' {w w' : World} {n : Nat} {v : Value} {l : List UInt8} (h : OB w n v l) {row : Option Nat} (hg : w.grownBy w' row) (hr : ∀ r, row = some r → r < n ∨ ∀ cur, w.heap[r]? ≠ some (.cells cur 5 (0, 0))) : OB w' n v l := by
  refine World.ownsRow.kept h hg ?_
  rcases hv : v.ownBlock with _ | k
  · exact .inl rfl
  · refine .inr fun e => ?_
    rcases hr k e.symm with h1 | h1
    · have := h.base k hv
      omega
    · obtain ⟨cur, hc⟩ := h.cells k hv
      exact h1 cur hc
theorem OV.kept' {w w' : World} {n : Nat} {t : TypeId} {s : Nat} {v : Value} {m : Nat} {l : List Value} (h : OV w n t s v m l) {row : Option Nat} (hg : w.grownBy w' row) (hr : ∀ r, row = some r → r < n ∨ ∀ cur, w.heap[r]? ≠ some (.cells cur t (0, 0))) : OV w' n t s v m l := by
  refine World.ownsRow.kept h hg ?_
  rcases hv : v.ownBlock with _ | k
  · exact .inl rfl
  · refine .inr fun e => ?_
    rcases hr k e.symm with h1 | h1
    · have := h.base k hv
      omega
    · obtain ⟨cur, hc⟩ := h.cells k hv
      exact h1 cur hc
/-- A turn of a block below n, or of one that is no cells, leaves it. -/
theorem OL.kept {w w' : World} {n : Nat} {v : Value} {L : List (List UInt8)} (h : OL w n v L) {row : Option Nat} (hg : w.grownBy w' row) (hr : ∀ r, row = some r → r < n ∨ ∃ o, w.heap[r]? = some o ∧ o.isCells = false) : OL w' n v L := by
  obtain ⟨vs, h1, h2, h3⟩ := h
  have hx : ∀ (t : TypeId) r, row = some r → r < n ∨ ∀ cur, w.heap[r]? ≠ some (.cells cur t (0, 0)) := fun t r e => by
    rcases hr r e with h | ⟨o, ho, hc⟩
    · exact .inl h
    · refine .inr fun cur hcur => ?_
      rw [ho] at hcur
      cases hcur
      cases hc
  exact ⟨vs, h1.kept' hg (hx _), h2, fun i u k a b => (h3 i u k a b).kept' hg (hx _)⟩
theorem OL.below {w w' : World} {n : Nat} {v : Value} {L : List (List UInt8)} (h : OL w n v L) (hb : Below w.heap.size w w') : OL w' n v L :=
  h.kept (row := none) ⟨hb.os, hb.tape, hb.output, hb.size, fun i hi _ => hb.block i hi⟩ (fun r e => by cases e)
/-- What holds between two rounds of Cut. -/
def CutI (Bp n : Nat) (Bo : Nat) (vp : Value) (L : List (List UInt8)) (w W : World) : Prop :=
  W.heap[Bp]? = some (.cells #[vp] 61 (0, 0)) ∧ W.heap[Bp + 1]? = some (.cells #[.slice none 0 0] 57 (0, 0)) ∧ W.heap[Bp + 1 + 1]? = some (.cells #[.int .i64 0] 26 (0, 0)) ∧
    (∃ v, W.heap[Bo]? = some (.cells #[v] 57 (0, 0)) ∧ OL W n v L) ∧ Below w.heap.size w W ∧ n ≤ W.heap.size
theorem CutI.kept {Bp n Bo : Nat} {vp : Value} {L : List (List UInt8)} {w W W' : World} (h : CutI Bp n Bo vp L w W) {row : Option Nat} (hg : W.grownBy W' row)
    (hr : ∀ r, row = some r → w.heap.size ≤ r ∧ r ≠ Bp ∧ r ≠ Bp + 1 ∧ r ≠ Bp + 1 + 1 ∧ r ≠ Bo ∧ (r < n ∨ ∃ o, W.heap[r]? = some o ∧ o.isCells = false)) : CutI Bp n Bo vp L w W' := by
  obtain ⟨h1, h2, h3, ⟨v, h4, h5⟩, h6, h7⟩ := h
  have hb : ∀ k o, W.heap[k]? = some o → (∀ r, row = some r → r ≠ k) → W'.heap[k]? = some o := fun k o hk hne => (hg.block k (lt_of_block hk) (fun e => hne k e.symm rfl)).trans hk
  exact ⟨hb _ _ h1 (fun r e => (hr r e).2.1), hb _ _ h2 (fun r e => (hr r e).2.2.1), hb _ _ h3 (fun r e => (hr r e).2.2.2.1), ⟨v, hb _ _ h4 (fun r e => (hr r e).2.2.2.2.1), h5.kept hg (fun r e => (hr r e).2.2.2.2.2)⟩,
    h6.grown hg h6.size (fun k e => (hr k e).1), Nat.le_trans h7 hg.size⟩
theorem cut_fin {w W : World} {D Bp n : Nat} {V E : Value} {t1 t2 : TypeId} {u1 u2 : Value} {L : List (List UInt8)} (h2 : W.heap[Bp + 1]? = some (.cells #[u1] t1 (0, 0))) (h3 : W.heap[Bp + 1 + 1]? = some (.cells #[u2] t2 (0, 0)))
    (hK : W.heap[D]? = some (.deferred (some []))) (hD : w.heap.size ≤ D) (hn : Bp + 2 < n) (hol : OL W n V L) (hb : Below w.heap.size w W) (hBp : w.heap.size ≤ Bp) :
    ((W.setCell ⟨Bp + 1, 0, none⟩ V).setCell ⟨Bp + 1 + 1, 0, none⟩ E).heap[D]? = some (.deferred (some [])) ∧
    ((((W.setCell ⟨Bp + 1, 0, none⟩ V).setCell ⟨Bp + 1 + 1, 0, none⟩ E).putObj D (.deferred none)).cell? ⟨Bp + 1, 0, none⟩ = some V ∧
    (((W.setCell ⟨Bp + 1, 0, none⟩ V).setCell ⟨Bp + 1 + 1, 0, none⟩ E).putObj D (.deferred none)).cell? ⟨Bp + 1 + 1, 0, none⟩ = some E ∧
    OL (((W.setCell ⟨Bp + 1, 0, none⟩ V).setCell ⟨Bp + 1 + 1, 0, none⟩ E).putObj D (.deferred none)) n V L ∧
    Below w.heap.size w (((W.setCell ⟨Bp + 1, 0, none⟩ V).setCell ⟨Bp + 1 + 1, 0, none⟩ E).putObj D (.deferred none))) := by
  have g1 := grownBy_setCell' W (Bp + 1) V
  have k1 := (KeepsOthers.setCell W ⟨Bp + 1, 0, none⟩ V).same D _ hK rfl
  have a1 : (W.setCell ⟨Bp + 1, 0, none⟩ V).heap[Bp + 1]? = some (.cells #[V] t1 (0, 0)) := blk_setCell h2 0 V
  have a2 : (W.setCell ⟨Bp + 1, 0, none⟩ V).heap[Bp + 1 + 1]? = some (.cells #[u2] t2 (0, 0)) := (g1.block _ (lt_of_block h3) (by intro e; injection e with e; omega)).trans h3
  have o1 := hol.kept g1 (fun r e => by cases e; exact .inl (by omega))
  have b1 := hb.grown g1 hb.size (fun r e => by cases e; omega)
  generalize W.setCell ⟨Bp + 1, 0, none⟩ V = X at *
  have g2 := grownBy_setCell' X (Bp + 1 + 1) E
  have k2 := (KeepsOthers.setCell X ⟨Bp + 1 + 1, 0, none⟩ E).same D _ k1 rfl
  have c1 : (X.setCell ⟨Bp + 1 + 1, 0, none⟩ E).heap[Bp + 1]? = some (.cells #[V] t1 (0, 0)) := (g2.block _ (lt_of_block a1) (by intro e; injection e with e; omega)).trans a1
  have c2 : (X.setCell ⟨Bp + 1 + 1, 0, none⟩ E).heap[Bp + 1 + 1]? = some (.cells #[E] t2 (0, 0)) := blk_setCell a2 0 E
  have o2 := o1.kept g2 (fun r e => by cases e; exact .inl (by omega))
  have b2 := b1.grown g2 b1.size (fun r e => by cases e; omega)
  generalize X.setCell ⟨Bp + 1 + 1, 0, none⟩ E = Y at *
  have g3 := grownBy_putObj' Y D (.deferred none)
  have hd : ∀ (k : Nat) (x : Array Value) (t : TypeId), Y.heap[k]? = some (Obj.cells x t (0, 0)) → (Y.putObj D (.deferred none)).heap[k]? = some (Obj.cells x t (0, 0)) := fun k x t h => (g3.block _ (lt_of_block h) (by intro e; injection e with e; subst e; rw [k2] at h; cases h)).trans h
  exact ⟨k2, cell_blk (hd _ _ _ c1) 0, cell_blk (hd _ _ _ c2) 0, o2.kept g3 (fun r e => by cases e; exact .inr ⟨_, k2, rfl⟩), b2.grown g3 b2.size (fun r e => by cases e; exact hD)⟩
theorem cut_step {Bp n Bo Bx k : Nat} {vp v vc v9 : Value} {L0 : List (List UInt8)} {CP : List UInt8} {w W w8 w9 : World} {vs : List Value}
    (h1 : W.heap[Bp]? = some (.cells #[vp] 61 (0, 0))) (h2 : W.heap[Bp + 1]? = some (.cells #[.slice none 0 0] 57 (0, 0))) (h3 : W.heap[Bp + 1 + 1]? = some (.cells #[.int .i64 0] 26 (0, 0)))
    (h4 : W.heap[Bo]? = some (.cells #[v] 57 (0, 0))) (h6 : Below w.heap.size w W) (hv : OV W n 24 1 v k vs) (hvl : vs.length = k) (hcl : L0.length = k)
    (hall : ∀ (i : Nat) (u : Value) (c : List UInt8), vs[i]? = some u → L0[i]? = some c → OB W n u c) (hb8 : Below W.heap.size W w8) (ho8 : OB w8 W.heap.size vc CP)
    (ho9 : OV w9 n 24 1 v9 (k + 1) (vs ++ [vc])) (hg9 : w8.grownBy w9 v.ownBlock) (n1 : w.heap.size ≤ Bp) (n2 : Bp + 2 < Bo) (n3 : Bo < Bx) (n4 : Bx < n) (n5 : n ≤ W.heap.size) :
    KeepsRec n W (w9.setCell ⟨Bo, 0, none⟩ v9) ∧ (w9.setCell ⟨Bo, 0, none⟩ v9).heap[Bx]? = W.heap[Bx]? ∧ CutI Bp n Bo vp (L0 ++ [CP]) w (w9.setCell ⟨Bo, 0, none⟩ v9) := by
  have hr : ∀ r, v.ownBlock = some r → n ≤ r := hv.base
  have hrc : ∀ r, v.ownBlock = some r → ∃ cur, w8.heap[r]? = some (.cells cur 24 (0, 0)) := (hv.below hb8).cells
  have k9 : KeepsRec n w8 w9 := KeepsRec.grown hg9 (fun j o e ho => by obtain ⟨cur, hc⟩ := hrc j e; rw [hc] at ho; cases ho; rfl)
  have keep : ∀ j, j < n → w9.heap[j]? = W.heap[j]? := fun j hj =>
    (hg9.block j (by have := hb8.size; omega) (by intro e; have := hr j e.symm; omega)).trans (hb8.block j (by omega))
  have g := grownBy_setCell' w9 Bo v9
  have s8 := hb8.size
  have s9 := hg9.size
  have s10 := g.size
  have keep2 : ∀ j, j < n → j ≠ Bo → (w9.setCell ⟨Bo, 0, none⟩ v9).heap[j]? = W.heap[j]? := fun j hj hne => (g.block j (by omega) (by intro e; injection e with e; exact hne e)).trans (keep j hj)
  have ob : ∀ u c, OB w8 n u c → OB (w9.setCell ⟨Bo, 0, none⟩ v9) n u c := fun u c h =>
    (h.kept' hg9 (fun r e => .inr fun cur hcur => by obtain ⟨cur', hc⟩ := hrc r e; rw [hc] at hcur; simp at hcur)).kept' g (fun r e => by cases e; exact .inl (by omega))
  refine ⟨((KeepsRec.of_below hb8).trans k9).trans (KeepsRec.setCell _ _ _), keep2 _ n4 (by omega), (keep2 _ (by omega) (by omega)).trans h1, (keep2 _ (by omega) (by omega)).trans h2, (keep2 _ (by omega) (by omega)).trans h3,
    ⟨v9, blk_setCell ((keep Bo (by omega)).trans h4) 0 v9, vs ++ [vc], ?_, by simp [hvl, hcl], ?_⟩, ?_, by omega⟩
  · rw [List.length_append, hcl]
    exact ho9.kept' g (fun r e => by cases e; exact .inl (by omega))
  · intro i u c hu hc
    rcases Nat.lt_or_ge i k with hi | hi
    · rw [List.getElem?_append_left (by omega)] at hu hc
      exact ob _ _ ((hall i u c hu hc).below hb8)
    · rw [List.getElem?_append_right (by omega)] at hu hc
      rw [hvl] at hu
      rw [hcl] at hc
      rcases hj : i - k with _ | j
      · rw [hj] at hu hc
        simp at hu hc
        subst hu hc
        exact ob _ _ (ho8.mono n5)
      · rw [hj] at hu
        simp at hu
  · have b8 := below_then h6 hb8 h6.size
    exact ((b8.grown hg9 b8.size (fun r e => by have := hr r e; omega)).grown g (by omega) (fun r e => by cases e; omega))
set_option maxRecDepth 100000 in
set_option maxHeartbeats 3200000 in
theorem cut_loop (a : Option Addr) (len cap : Nat) (b : List UInt8) (p : Option Addr) (m d : Nat) (l : List Int) (w : World) (hr : Rd w a len b) (hc : len ≤ cap) (hl : RI w p m l) (hf : P.fits b l = true) (h20 : b.length ≤ 1048576) :
    Calls Try.prog 35 #[.slice a len cap, .slice p m d] w fun e w' => ∃ v, e = .returned (.tuple #[v, .int .i64 0]) ∧ OL w' w.heap.size v (P.cutTo b l l.length) ∧ Below w.heap.size w w' := by
  have hbl := hr.1
  have hlm := hl.len
  have HFIT := Lib.hid (fun w (hr : Rd w a len b) (hl : RI w p m l) => fit_any a len cap b p m d l w hr hl)
  rw [hf] at HFIT
  have hlen : len ≤ 1048576 := by omega
  have c1 : decide (1048576 < (len : Int)) = false := decide_eq_false (by omega)
  have HR := Lib.hid hr
  have HL := Lib.hid hl
  have HF := Lib.hid hf
  clear hr hl hf hbl hlm h20
  refine (callsIn_wide (n := 3)).1 ?_
  refine callsIn_of_wp_marks Try.func35 rfl trivial ?_ rfl
  simp only [Try.ntmps35, List.size_toArray, List.length_cons, List.length_nil, Nat.reduceAdd, Nat.reduceSub, Array.replicate_succ, Array.replicate_zero, List.push_toArray, List.append_toArray, List.nil_append, List.cons_append]
  have hb0 : Below w.heap.size w (((w.alloc (.cells #[.slice p m d] 61)).alloc (.cells #[.slice none 0 0] 57)).alloc (.cells #[.int .i64 0] 26)) := (((Below.refl _ w).alloc (Nat.le_refl _) _).alloc (by simp) _).alloc (by simp; omega) _
  have hk0 : (((w.alloc (.cells #[.slice p m d] 61)).alloc (.cells #[.slice none 0 0] 57)).alloc (.cells #[.int .i64 0] 26)).heap[w.heap.size]? = _ := alloc_old (alloc_old (alloc_new _ _ _ rfl) _) _
  gi_wp2_with (first
    | (refine ⟨trivial, ?_⟩; gi_at_call 72; refine (callsIn_wide.2 (HFIT.out _ (HR.out.below hb0) (HL.out.below hb0))).mono ?_; rintro e w1 ⟨rfl, hb1⟩)
    | (refine ⟨trivial, ?_⟩; gi_at_call 73; refine (callsIn_wide.2 (parts_any a len cap _)).mono ?_; rintro e w2 ⟨rfl, rfl⟩))
  have hs1 : w.heap.size + 3 ≤ w1.heap.size := by have := hb1.size; simp at this; omega
  have hb1' : Below w.heap.size w w1 := below_then hb0 hb1 hb0.size
  have hp1 := (hb1.block _ (lt_of_block hk0)).trans hk0
  have hk1 : (((w.alloc (.cells #[.slice p m d] 61)).alloc (.cells #[.slice none 0 0] 57)).alloc (.cells #[.int .i64 0] 26)).heap[w.heap.size + 1]? = some (.cells #[.slice none 0 0] 57 (0, 0)) := alloc_old (by have h := alloc_new (w.alloc (.cells #[.slice p m d] 61)) (.cells #[.slice none 0 0] 57) _ rfl; simpa using h) _
  have hk2 : (((w.alloc (.cells #[.slice p m d] 61)).alloc (.cells #[.slice none 0 0] 57)).alloc (.cells #[.int .i64 0] 26)).heap[w.heap.size + 1 + 1]? = some (.cells #[.int .i64 0] 26 (0, 0)) := by
    have h := alloc_new ((w.alloc (.cells #[.slice p m d] 61)).alloc (.cells #[.slice none 0 0] 57)) (.cells #[.int .i64 0] 26) _ rfl
    simpa using h
  have hr1 := (hb1.block _ (lt_of_block hk1)).trans hk1
  have hr2 := (hb1.block _ (lt_of_block hk2)).trans hk2
  have hbW : Below w.heap.size w ((w1.alloc (.cells #[.slice none 0 0] 57)).alloc (.cells #[.slice a len cap] 24)) := (hb1'.alloc hb1'.size _).alloc (by have := hb1'.size; simp; omega) _
  have hsW : ((w1.alloc (.cells #[.slice none 0 0] 57)).alloc (.cells #[.slice a len cap] 24)).heap.size = w1.heap.size + 2 := by simp
  have hWp := alloc_old (alloc_old hp1 (.cells #[.slice none 0 0] 57)) (.cells #[.slice a len cap] 24)
  have hWr1 := alloc_old (alloc_old hr1 (.cells #[.slice none 0 0] 57)) (.cells #[.slice a len cap] 24)
  have hWr2 := alloc_old (alloc_old hr2 (.cells #[.slice none 0 0] 57)) (.cells #[.slice a len cap] 24)
  have hWo := alloc_old (alloc_new w1 (.cells #[.slice none 0 0] 57) _ rfl) (.cells #[.slice a len cap] 24)
  have hWx : ((w1.alloc (.cells #[.slice none 0 0] 57)).alloc (.cells #[.slice a len cap] 24)).heap[w1.heap.size + 1]? = some (.cells #[.slice a len cap] 24 (0, 0)) := by
    have h := alloc_new (w1.alloc (.cells #[.slice none 0 0] 57)) (.cells #[.slice a len cap] 24) _ rfl
    simpa using h
  generalize ((w1.alloc (.cells #[.slice none 0 0] 57)).alloc (.cells #[.slice a len cap] 24)) = W0 at *
  obtain ⟨q, hq⟩ : ∃ q, q = a.getD ⟨0, 0, none⟩ := ⟨_, rfl⟩
  have hq0 : 0 < len → a = some q := fun h => by
    obtain ⟨p0, rfl, -⟩ := HR.out.ptr (by have := HR.out.1; omega)
    rw [hq]; rfl
  have hbox : BoxAt (w1.heap.size + 1) q len 0 W0 := ⟨a, cap, hWx, hc, fun h => by rw [hq0 (by omega)]; congr 1⟩
  have HQ := Lib.hid hq0
  clear hk0 hk1 hk2 hp1 hr1 hr2 hWx hq hq0 hb0 hb1
  refine wpIn_range_box rfl (by omega) (gf := 93) (lb := #[.pointer (some ⟨w1.heap.size + 1, 0, none⟩)]) rfl trivial (enters_of Try.func93 (by kernel_rfl) rfl) (encs := encB q len) (fun _ => rfl) (B := w1.heap.size + 1) (N := P.needN len) (by omega)
    (parts_box _ (by omega) _ q len _ rfl W0 hlen (by omega) hbox) (fun k W => CutI w.heap.size W0.heap.size w1.heap.size (.slice p m d) (P.cutTo b l k) w W)
    (fun s W lq o o' h hl1 ho hcc => h.kept (grownBy_putObj' W lq o') (fun r e => by cases e; exact ⟨by omega, by omega, by omega, by omega, by omega, .inr ⟨o, ho, hcc⟩⟩))
    (fun s W o h => h.kept (World.grownBy_alloc W o none) (fun r e => by cases e))
    (fun s W v h => h.kept (grownBy_setCell' W _ v) (fun r e => by cases e; exact ⟨by omega, by omega, by omega, by omega, by omega, .inl (by omega)⟩))
    ⟨hWp, hWr1, hWr2, ⟨_, hWo, OL.nil _ _⟩, hbW, Nat.le_refl _⟩
    (fun k => { tmps := #[.slice a len cap, .slice p m d, undef, .pointer (some ⟨w.heap.size, 0, none⟩), .pointer (some ⟨w.heap.size + 1, 0, none⟩), .pointer (some ⟨w.heap.size + 1 + 1, 0, none⟩), .pointer (some ⟨w1.heap.size, 0, none⟩), (.slice (some (q.add (244 * k))) (min 244 (len - 244 * k)) (min 244 (len - 244 * k))), undef, undef, undef, undef, undef, .bool false, .slice a len cap, .slice p m d, .bool true, .bool false, .bool false, .slice a len cap, .int .i64 (len : Int), .bool false, .slice a len cap, .func (.func 93) #[] #[.pointer (some ⟨w1.heap.size + 1, 0, none⟩)], (.slice (some (q.add (244 * k))) (min 244 (len - 244 * k)) (min 244 (len - 244 * k))), undef, undef, undef, undef, undef, undef, undef, undef, undef, undef, undef, undef, undef, undef, undef, undef, undef, undef, undef, undef, undef, undef, undef, undef, undef, undef, undef, undef, undef, undef, undef, undef, undef, undef, undef, undef], defers := [] }) ?assign ?body ?done
  case assign =>
    intro ll x W K hK
    unfold encB
    gi_wp2
    exact hK
  case body =>
    rintro ll k W ⟨h1, h2, h3, ⟨v, h4, h5⟩, h6, hWs⟩ hkN
    have hlB := HR.out.1
    have hfit := (P.fits_iff b l).1 HF.out
    have hlm := HL.out.len
    have hNm : P.needN len = m := by rw [← hlm, hfit.1, hlB]
    have h244 : 244 * k < len := by have h := hkN; unfold P.needN at h; omega
    have hkm : k < m := by omega
    have hm2 : m ≤ 4300 := by rw [← hNm]; unfold P.needN; omega
    obtain rfl := HQ.out (by omega)
    have hpl := P.part_len b k
    rw [hlB] at hpl
    have hsl := P.seal_cut b l k (by omega)
    have hnx := P.nextI_ok b l HF.out k
    have hcs := P.cutTo_succ b l k
    have hcl := P.cutTo_length b l k
    have hT : Rd W (some (q.add (244 * k))) (min 244 (len - 244 * k)) (P.part b k) := by
      have h := ((HR.out.below h6).drop (244 * k)).take (min 244 (len - 244 * k)) (by omega)
      have e : P.part b k = (b.drop (244 * k)).take (min 244 (len - 244 * k)) := by
        unfold P.part
        rw [← hlB, List.take_eq_take_iff]
        simp
      rw [e]
      exact h
    have hnv : P.nextI l k = if h : k + 1 < l.length then l[k + 1] else 0 := by
      unfold P.nextI
      split
      · rename_i h; simp [List.getD, h]
      · rename_i h; simp [List.getD, h]
    have hL1 := HL.out.below h6
    obtain ⟨vs, hv, hvl, hall⟩ := h5
    rw [hcl] at hv hvl
    obtain ⟨av, cv, rfl, -⟩ := hv.form
    have hK : P.cutPage b l k = P.sealB 5 0 ((P.part b k).length : Nat) (P.cutBody b l k) := by
      unfold P.cutPage P.sealB
      rw [if_pos hsl]
      simp
    have hbody : P.cutBody b l k = P.be 4 (P.nextI l k).toNat ++ P.part b k := rfl
    have hbl : (P.cutBody b l k).length = 4 + (P.part b k).length := by rw [hbody, List.length_append, P.be_length]
    generalize P.cutBody b l k = CB at *
    generalize P.cutPage b l k = CP at *
    generalize P.part b k = PT at *
    generalize P.nextI l k = X at *
    generalize P.cutTo b l (k + 1) = L1 at *
    generalize P.cutTo b l k = L0 at *
    dsimp only
    have hlnB : min 244 (len - 244 * k) ≤ 244 := by omega
    generalize min 244 (len - 244 * k) = ln at *
    generalize q.add (244 * k) = qk at *
    have gp := cell_blk h1
    have go := cell_blk h4
    have fo := free_blk h4
    have hX0 : 0 ≤ X := by omega
    have hX1 : X < 4096 := by omega
    have hput := put_zr 4 X (by omega) (by omega) hX0 (by omega) (by omega)
    have hYl := P.be_length 4 X.toNat
    generalize P.be 4 X.toNat = Y at hput hbody hYl
    have HYL := Lib.hid hYl
    have hmk : ∀ w, (Instr.makeSlice 24 (.int .i64 4) (.int .i64 4)).run Try.prog w = .ok (.slice (some ⟨w.heap.size, 0, none⟩) 4 4) (w.alloc (.cells (zr 4) 5)) := mk_zr 4 (by omega)
    have hzm : 4 ≤ maxLen := by unfold maxLen; omega
    have H1 := Lib.hid h1
    have H2 := Lib.hid h2
    have H3 := Lib.hid h3
    have H4 := Lib.hid h4
    have HV := Lib.hid hv
    have HVL := Lib.hid hvl
    have HALL := Lib.hid hall
    have HCL := Lib.hid hcl
    have HCS := Lib.hid hcs
    have HT := Lib.hid hT
    have HPL := Lib.hid hpl
    have HSL := Lib.hid hsl
    have HBL := Lib.hid hbl
    have HK := Lib.hid hK
    have HBODY := Lib.hid hbody
    have hkl : k + 1 < l.length ↔ k + 1 < m := by omega
    have HKL := Lib.hid hkl
    have HNV := Lib.hid hnv
    clear hYl h1 h2 h3 h4 hv hvl hall hcl hcs hT hpl hsl hbl hK hbody hnv hlB hfit hlm hNm hnx hkl HQ HFIT hWp hWr1 hWr2 hWo hbox
    by_cases hk1 : k + 1 < m
    case pos =>
      obtain ⟨pp, rfl, hcl1⟩ := hL1.at (k + 1) (HKL.out.2 hk1)
      rw [show l[k + 1]'(HKL.out.2 hk1) = X by rw [HNV.out, dif_pos (HKL.out.2 hk1)], add_lit pp (k + 1) (by omega)] at hcl1
      have i1 : (k : Int) + 1 < (m : Int) := by omega
      gi_wp2_with (first
        | (refine ⟨trivial, ?_⟩; gi_at_call 53; refine (CallsIn.inRound ll (callsIn_wide.2 (put_good _ _ _ (List.replicate 4 0) _ _ _ _ _ (Rd_zr _ _ 4 hzm) hput (by omega)))).mono ?_; rintro e w5 ⟨v5, rfl, ho5, hb5⟩; obtain ⟨a5, c5, hv5, -, -, -, -⟩ := ho5.form; rw [HYL.out] at hv5; subst hv5; have hb5' := below_alloc1 hb5; have ho5' := ho5.mono (show W.heap.size ≤ _ by simp); have ht5 := HT.out.below hb5'; have HO5 := Lib.hid ho5'; have HT5 := Lib.hid ht5; clear ho5 ho5' ht5)
        | (gi_at_builtin; refine wpListIn_app _ rfl _ _ rfl W.heap.size _ _ rfl HO5.out _ _ _ _ rfl HT5.out ?c1 ?c2 ?_))
      case c1 => rw [HYL.out]; omega
      case c2 => exact hb5'.size
      intro v6 w6 ho6 hg6 hat6
      have hb6 : Below W.heap.size W w6 := HO5.out.grown hb5' hb5'.size hg6
      rw [← HBODY.out] at ho6
      obtain ⟨a6, c6, hv6, hr6, -, -, -⟩ := ho6.form
      subst hv6
      have HR6 := Lib.hid hr6
      have hll : (ln : Int) = (PT.length : Int) := by rw [HPL.out]
      have hseal := seal_fun 5 0 (ln : Int) a6 CB.length c6 CB w6 HR6.out
      rw [show P.sealErr 5 0 (ln : Int) CB.length = 0 by rw [hll]; exact HSL.out, show P.sealB 5 0 (ln : Int) CB = CP by rw [hll]; exact HK.out.symm] at hseal
      have HSE := Lib.hid hseal
      clear ho6 hr6 hseal hll hg6 hat6 hb5
      gi_wp2_with (first
        | (refine ⟨trivial, ?_⟩; gi_at_call 54; refine (CallsIn.inRound ll (callsIn_wide.2 HSE.out)).mono ?_; rintro e w7 ⟨v7, rfl, ho7, hb7⟩; obtain ⟨a7, c7, hv7, -, -, -, -⟩ := ho7.form; subst hv7; have hb7' := hb6.trans (hb7.mono hb6.size); have go := cell_blk ((hb7'.block _ (lt_of_block H4.out)).trans H4.out); have hb8 : Below W.heap.size W (w7.alloc (.cells #[.slice a7 CP.length c7] 24)) := hb7'.alloc hb7'.size _; have hrv : RV (w7.alloc (.cells #[.slice a7 CP.length c7] 24)) (some ⟨w7.heap.size, 0, none⟩) 1 1 [.slice a7 CP.length c7] := RV_lit w7 24 1 1 [.slice a7 CP.length c7] rfl (by unfold maxLen; omega); have ho8 := (ho7.mono hb6.size).alloc (.cells #[.slice a7 CP.length c7] 24); have HO8 := Lib.hid ho8; have HRV := Lib.hid hrv; have HB8 := Lib.hid hb8; clear ho7 ho8 hrv hb8)
        | (gi_at_builtin; refine wpListIn_appV rowsT _ rfl _ _ rfl W0.heap.size _ _ _ rfl (HV.out.below HB8.out) _ _ _ _ rfl HRV.out (fun u hu => by rw [List.mem_singleton] at hu; subst hu; rfl) ?c1 ?c2 ?c3 ?_))
      case c1 => omega
      case c2 => omega
      case c3 => have := HB8.out.size; have := lt_of_block H4.out; omega
      intro v9 w9 ho9 hg9 hat9
      obtain ⟨a9, c9, rfl, -⟩ := ho9.form
      rw [← hsW] at ho9
      have hst := cut_step H1.out H2.out H3.out H4.out h6 HV.out HVL.out HCL.out HALL.out HB8.out HO8.out ho9 hg9 (Nat.le_refl _) (by omega) (Nat.lt_succ_self _) (by omega) hWs
      rw [← HCS.out] at hst
      have g9 := (hg9.block w1.heap.size (by have := HB8.out.size; have := lt_of_block H4.out; omega) (by intro e; have := HV.out.base _ e.symm; omega)).trans ((HB8.out.block _ (lt_of_block H4.out)).trans H4.out)
      have go := cell_blk g9
      have fo := free_blk g9
      have HST := Lib.hid hst
      clear ho9 hg9 hat9 hst g9
      gi_wp2
      have h := HST.out
      rw [hsW] at h
      exact h
    case neg =>
      obtain rfl : X = 0 := by rw [HNV.out, dif_neg (fun h => hk1 (HKL.out.1 h))]
      have i1 : ¬ ((k : Int) + 1 < (m : Int)) := by omega
      gi_wp2_with (first
        | (refine ⟨trivial, ?_⟩; gi_at_call 53; refine (CallsIn.inRound ll (callsIn_wide.2 (put_good _ _ _ (List.replicate 4 0) _ _ _ _ _ (Rd_zr _ _ 4 hzm) hput (by omega)))).mono ?_; rintro e w5 ⟨v5, rfl, ho5, hb5⟩; obtain ⟨a5, c5, hv5, -, -, -, -⟩ := ho5.form; rw [HYL.out] at hv5; subst hv5; have hb5' := below_alloc1 hb5; have ho5' := ho5.mono (show W.heap.size ≤ _ by simp); have ht5 := HT.out.below hb5'; have HO5 := Lib.hid ho5'; have HT5 := Lib.hid ht5; clear ho5 ho5' ht5)
        | (gi_at_builtin; refine wpListIn_app _ rfl _ _ rfl W.heap.size _ _ rfl HO5.out _ _ _ _ rfl HT5.out ?c1 ?c2 ?_))
      case c1 => rw [HYL.out]; omega
      case c2 => exact hb5'.size
      intro v6 w6 ho6 hg6 hat6
      have hb6 : Below W.heap.size W w6 := HO5.out.grown hb5' hb5'.size hg6
      rw [← HBODY.out] at ho6
      obtain ⟨a6, c6, hv6, hr6, -, -, -⟩ := ho6.form
      subst hv6
      have HR6 := Lib.hid hr6
      have hll : (ln : Int) = (PT.length : Int) := by rw [HPL.out]
      have hseal := seal_fun 5 0 (ln : Int) a6 CB.length c6 CB w6 HR6.out
      rw [show P.sealErr 5 0 (ln : Int) CB.length = 0 by rw [hll]; exact HSL.out, show P.sealB 5 0 (ln : Int) CB = CP by rw [hll]; exact HK.out.symm] at hseal
      have HSE := Lib.hid hseal
      clear ho6 hr6 hseal hll hg6 hat6 hb5
      gi_wp2_with (first
        | (refine ⟨trivial, ?_⟩; gi_at_call 54; refine (CallsIn.inRound ll (callsIn_wide.2 HSE.out)).mono ?_; rintro e w7 ⟨v7, rfl, ho7, hb7⟩; obtain ⟨a7, c7, hv7, -, -, -, -⟩ := ho7.form; subst hv7; have hb7' := hb6.trans (hb7.mono hb6.size); have go := cell_blk ((hb7'.block _ (lt_of_block H4.out)).trans H4.out); have hb8 : Below W.heap.size W (w7.alloc (.cells #[.slice a7 CP.length c7] 24)) := hb7'.alloc hb7'.size _; have hrv : RV (w7.alloc (.cells #[.slice a7 CP.length c7] 24)) (some ⟨w7.heap.size, 0, none⟩) 1 1 [.slice a7 CP.length c7] := RV_lit w7 24 1 1 [.slice a7 CP.length c7] rfl (by unfold maxLen; omega); have ho8 := (ho7.mono hb6.size).alloc (.cells #[.slice a7 CP.length c7] 24); have HO8 := Lib.hid ho8; have HRV := Lib.hid hrv; have HB8 := Lib.hid hb8; clear ho7 ho8 hrv hb8)
        | (gi_at_builtin; refine wpListIn_appV rowsT _ rfl _ _ rfl W0.heap.size _ _ _ rfl (HV.out.below HB8.out) _ _ _ _ rfl HRV.out (fun u hu => by rw [List.mem_singleton] at hu; subst hu; rfl) ?c1 ?c2 ?c3 ?_))
      case c1 => omega
      case c2 => omega
      case c3 => have := HB8.out.size; have := lt_of_block H4.out; omega
      intro v9 w9 ho9 hg9 hat9
      obtain ⟨a9, c9, rfl, -⟩ := ho9.form
      rw [← hsW] at ho9
      have hst := cut_step H1.out H2.out H3.out H4.out h6 HV.out HVL.out HCL.out HALL.out HB8.out HO8.out ho9 hg9 (Nat.le_refl _) (by omega) (Nat.lt_succ_self _) (by omega) hWs
      rw [← HCS.out] at hst
      have g9 := (hg9.block w1.heap.size (by have := HB8.out.size; have := lt_of_block H4.out; omega) (by intro e; have := HV.out.base _ e.symm; omega)).trans ((HB8.out.block _ (lt_of_block H4.out)).trans H4.out)
      have go := cell_blk g9
      have fo := free_blk g9
      have HST := Lib.hid hst
      clear ho9 hg9 hat9 hst g9
      gi_wp2
      have h := HST.out
      rw [hsW] at h
      exact h
  case done =>
    rintro D W hD ⟨h1, h2, h3, ⟨v, h4, h5⟩, h6, -⟩ hK
    have ho := cell_blk h4
    have hr1 := cell_blk h2
    have hr2 := cell_blk h3
    have hf1 := free_blk h2
    have hf2 := free_blk h3
    have h5' := h5
    obtain ⟨vs, hv, -⟩ := h5'
    obtain ⟨av, cv, rfl, -⟩ := hv.form
    obtain ⟨k1, k2, k3, k4, k5⟩ := cut_fin (E := .int .i64 0) h2 h3 hK (w := w) (by have := hbW.size; omega) (by omega) h5 h6 (Nat.le_refl _)
    have K2 := Lib.hid k2
    have K3 := Lib.hid k3
    have K4 := Lib.hid k4
    have K5 := Lib.hid k5
    have hll : P.needN len = l.length := by
      have h := ((P.fits_iff b l).1 HF.out).1
      have h' := HR.out.1
      rw [h, h']
    have HLL := Lib.hid hll
    clear k2 k3 k4 k5 h5 hv hll
    gi_wp2
    refine ⟨by simp, .inl ⟨_, _, rfl, run_takeDeferred k1, ?_⟩⟩
    have hc2 := K2.out
    have hc3 := K3.out
    refine ⟨.tuple #[.slice av (P.cutTo b l (P.needN len)).length cv, .int .i64 0], ?_, ⟨_, rfl, ?_, K5.out⟩⟩
    · simp [results, Try.results35, go_sem, hc2, hc3]
    · have h := K4.out
      rw [HLL.out] at h ⊢
      exact h.mono (by omega)
end Go.Proofs.Ytpdmhnppibfmkaa
