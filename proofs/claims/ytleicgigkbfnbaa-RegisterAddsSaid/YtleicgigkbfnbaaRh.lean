/- A range over a function whose iterator walks a collection of the heap (the kit's 'SeqGives'): the loop's law, the rounds told as a list. -/
import Derived.Test.YtleicgigkbfnbaaRg
import Derived.RangeFuncGives
namespace Go.Proofs.Ytleicgigkbfnbaa
set_option linter.unusedVariables false
set_option linter.unusedSimpArgs false
open Go.RowKit Go.Shelf

theorem KeepsRec.walks {W W' : World} (h : KeepsRec 0 W W') : KeepsWalks W W' := ⟨h.1, fun k o hk ho => h.2 k o (Nat.zero_le _) hk (by cases o <;> first | rfl | cases ho)⟩
theorem grownBy_put1 (W : World) (r : Nat) (o : Obj) : W.grownBy (W.putObj r o) (some r) := ⟨rfl, rfl, rfl, by simp, fun k _ hne => World.putObj_heap_other (fun e => hne (by rw [e]))⟩
theorem wpIn_range_seq {F : Fence} {n : Nat} {P : Program} {g : Operand} {ps : Array Tmp} {assign body : Code} {Q : Exit → Act → World → Prop} {a : Act} {w : World}
    (hro : F.round = none) (h1 : 1 ≤ n) {gf : Nat} {lb : Array Value} (hg : a.eval g = .func (.func gf) #[] lb) (hFg : F.fn gf) (eg : ∀ args w, (callFunc gf args).run P w = .ok (.enter gf args) w)
    {α : Type} {enc : α → Value} (hps : ps.size = 1) {S : List α → Prop} {N : Nat} (hseq : SeqGives F (n - 1) P gf lb enc S N w)
    (I : List α → World → Prop)
    (hI : ∀ s W W' r o, I s W → w.heap.size ≤ r → W.heap[r]? = some o → o.isCells = false → W.grownBy W' (some r) → I s W')
    (hIa : ∀ s W W', I s W → W.grownBy W' none → I s W')
    (h0 : I [] w) (a₁ : α → Act)
    (hassign : ∀ (l : Nat) (x : α) (W : World) (K : Act → World → Prop), K (a₁ x) W →
      assign.wpIn (F.inRound l) (n - 1 - 1) P (Exit.then K (fun _ _ _ => False)) { tmps := (ps.zip #[enc x]).foldl (fun t (p, v) => t.setIfInBounds p v) a.tmps, defers := [] } W)
    (hbody : ∀ (l : Nat) (ks : List α) (x : α) (W : World), I ks W → ks.length < N →
      body.wpIn (F.inRound l) (n - 1 - 1) P (fun e _ W' => e = .normal ∧ KeepsRec 0 W W' ∧ I (ks ++ [x]) W') (a₁ x) W)
    (hdone : ∀ (D : Nat) (W : World) (ks : List α), w.heap.size ≤ D → S ks → I ks W → W.heap[D]? = some (.deferred (some [])) → Q .normal { a with defers := { target := .collected D, args := #[] } :: a.defers } W) :
    (Code.rangeFunc g ps assign body).wpIn F n P Q a w := by
  refine wpIn_rangeFunc ?_
  intro fn hfn
  rw [hro]
  obtain ⟨rec, hrec⟩ : ∃ rec : LoopState → Loop, rec = fun st => { state := st, pending := none, fn, tmps := a.tmps, params := ps, assign, body, defers := w.heap.size } := ⟨_, rfl⟩
  obtain ⟨R, hR⟩ : ∃ R, R = w.heap.size + 1 := ⟨_, rfl⟩
  obtain ⟨W1, hW1⟩ : ∃ W1, (w.alloc (.deferred (some []))).alloc (.loop (rec .ready)) = W1 := ⟨_, rfl⟩
  have hL1 : W1.heap[R]? = some (.loop (rec .ready)) := by
    rw [← hW1, hR]
    have := World.alloc_heap_new (w.alloc (.deferred (some []))) (.loop (rec .ready))
    rwa [World.size_alloc] at this
  have hK1 : W1.heap[w.heap.size]? = some (.deferred (some [])) := by
    rw [← hW1]
    exact (Below.heap_alloc _ _ _ (by simp)).trans (World.alloc_heap_new w _)
  have hI1 : I [] W1 := by rw [← hW1]; exact hIa _ _ _ (hIa _ _ _ h0 (World.grownBy_alloc _ _ _)) (World.grownBy_alloc _ _ _)
  have hb1 : Below w.heap.size w W1 := by rw [← hW1]; exact ((Below.refl _ w).alloc (Nat.le_refl _) _).alloc (by simp) _
  have hne3 : w.heap.size ≠ R := by omega
  have hlR := lt_of_block hL1
  refine ⟨R, [{ target := .collected w.heap.size, args := #[] }], W1, { target := .fn (.func gf) lb, args := #[.func (.yield R) #[] #[]] }, W1, gf, #[.func (.yield R) #[] #[]] ++ lb, W1, ?_, ?_, ?_, ?_, fun _ => h1, ?_⟩
  · rw [← hW1, hrec, hR]
    exact run_enterLoop_outer _ _ _ _ _
  · simp only [resolve, hg]
    simp [go_sem]
  · intro f' hf'
    simp [Target.leads] at hf'
    subst hf'
    exact hFg
  · simp [invoke, go_sem, eg]
  · refine (hseq R (fun ks W => I ks W ∧ W.heap[R]? = some (.loop (rec .ready)) ∧ W.heap[w.heap.size]? = some (.deferred (some [])) ∧ W1.heap.size ≤ W.heap.size) W1 hb1 ?_ ?_ ⟨hI1, hL1, hK1, Nat.le_refl _⟩).mono ?_
    · rintro s W W' row ⟨hi, hl, hk, hs⟩ hgr hrow
      have hk' : ∀ k o, k < W1.heap.size → W.heap[k]? = some o → W'.heap[k]? = some o := fun k o hk ho => (hgr.block k (lt_of_block ho) (fun e => by have := (hrow k e.symm).1; omega)).trans ho
      refine ⟨?_, hk' _ _ hlR hl, hk' _ _ (by omega) hk, Nat.le_trans hs hgr.size⟩
      rcases row with _ | r
      · exact hIa _ _ _ hi hgr
      · obtain ⟨hr1, o, ho, hw⟩ := hrow r rfl
        exact hI _ _ _ r o hi (by omega) ho (by cases o <;> first | rfl | cases hw) hgr
    · rintro ks x W ⟨hi, hl, hk, hs⟩ hlen
      have hlt : R < W.heap.size := lt_of_block hl
      have hy := run_yield (P := P) (args := #[enc x]) hl (by rw [hrec]; exact hps.symm)
      rw [hrec] at hy
      refine ⟨fn, _, assign, body, hy, roundIn_of_wpIn hfn (hassign _ x W _ ⟨_, run_beginRound hl (by rw [hrec]), ?_⟩)⟩
      have hl2 : (W.putObj R (.loop { rec .ready with state := .busy })).heap[R]? = some (.loop { rec .ready with state := .busy }) := World.putObj_heap_same hlt
      have hk2 : (W.putObj R (.loop { rec .ready with state := .busy })).heap[w.heap.size]? = some (.deferred (some [])) := (World.putObj_heap_other (by omega)).trans hk
      have kw2 : KeepsWalks W (W.putObj R (.loop { rec .ready with state := .busy })) := KeepsWalks.putObj _ hl rfl
      refine wpIn_mono (hbody _ ks x _ (hI _ _ _ R _ hi (by omega) hl rfl (grownBy_put1 _ _ _)) hlen) ?_
      rintro e a3 W3 ⟨rfl, hk3, hi3⟩
      have hl3 := hk3.2 _ _ (Nat.zero_le _) hl2 rfl
      have hend := run_endRound (P := P) none hl3
      have kw3 : KeepsWalks W3 (W3.putObj R (.loop { { rec .ready with state := .busy } with state := if (none : Option Code).isNone then .ready else .done, pending := none })) := KeepsWalks.putObj _ hl3 rfl
      refine ⟨_, _, hend, rfl, ⟨hI _ _ _ R _ hi3 (by omega) hl3 rfl (grownBy_put1 _ _ _), ?_, (World.putObj_heap_other (by omega)).trans (hk3.2 _ _ (Nat.zero_le _) hk2 rfl), Nat.le_trans hs (Nat.le_trans kw2.size (Nat.le_trans hk3.1 kw3.size))⟩, (kw2.trans hk3.walks).trans kw3⟩
      rw [World.putObj_heap_same (lt_of_block hl3), hrec]
      rfl
    · rintro e W2 ⟨⟨v, rfl⟩, ks, hS, hi, hl, hk, hs⟩
      refine ⟨none, _, by have := run_endLoop (P := P) hl (by rw [hrec]; simp); rw [hrec] at this; exact this, hdone _ _ ks (Nat.le_refl _) hS (hI _ _ _ R _ hi (by omega) hl rfl (grownBy_put1 _ _ _)) ((World.putObj_heap_other (by omega)).trans hk)⟩

theorem OBr.base {w : World} {n : Nat} {v : Value} {l : List UInt8} (h : OB w n v l) (k : Nat) (hk : v.ownBlock = some k) : n ≤ k := by
  rcases h.2 with ⟨rfl, _⟩ | ⟨g, cap, cur, rfl, hb, _⟩
  · simp [Value.ownBlock] at hk
  · simp [Value.ownBlock] at hk
    omega
theorem OBr.cells {w : World} {n : Nat} {v : Value} {l : List UInt8} (h : OB w n v l) (k : Nat) (hk : v.ownBlock = some k) : ∃ cur, w.heap[k]? = some (.cells cur 5 (0, 0)) := by
  rcases h.2 with ⟨rfl, _⟩ | ⟨g, cap, cur, rfl, hb, hg, _⟩
  · simp [Value.ownBlock] at hk
  · simp [Value.ownBlock] at hk
    subst hk
    exact ⟨cur, hg⟩
theorem OBr.kept {w w' : World} {n : Nat} {v : Value} {l : List UInt8} (h : OB w n v l) {row : Option Nat} (hg : w.grownBy w' row) (hr : ∀ r, row = some r → r < n ∨ ∀ cur, w.heap[r]? ≠ some (.cells cur 5 (0, 0))) : OB w' n v l := by
  refine World.ownsRow.kept h hg ?_
  rcases hv : v.ownBlock with _ | k
  · exact .inl rfl
  · refine .inr fun e => ?_
    rcases hr k e.symm with h1 | h1
    · have := OBr.base h k hv
      omega
    · obtain ⟨cur, hc⟩ := OBr.cells h k hv
      exact h1 cur hc
end Go.Proofs.Ytleicgigkbfnbaa
