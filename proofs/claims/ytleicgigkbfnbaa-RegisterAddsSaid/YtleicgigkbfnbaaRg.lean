/- A range over a function whose iterator keeps state of its own in one captured variable (block B); rounds are counted; no round leaves early. Append in a round. -/
import Derived.RangeFuncNested
import Derived.RangeFuncBound
import Derived.RangeFuncCalls
import Derived.RangeFuncLeaves
import Derived.Shelf.Abstract
import Derived.Shelf.RegionOpen
import Derived.WalkKit
import Derived.OwnWalkIn
import Derived.TacticsInMore
import Derived.LoopNIn
import Derived.LoopIn
import Derived.Test.YtleicgigkbfnbaaGr
namespace Go.Proofs.Ytleicgigkbfnbaa
set_option linter.unusedVariables false
set_option linter.unusedSimpArgs false
open Go.RowKit Go.Shelf

/-- Whatever is no cells and lies at or beyond n lies as it lay. -/
def KeepsRec (n : Nat) (W W' : World) : Prop := W.heap.size ≤ W'.heap.size ∧ ∀ (k : Nat) (o : Obj), n ≤ k → W.heap[k]? = some o → o.isCells = false → W'.heap[k]? = some o
theorem KeepsRec.of_below {n : Nat} {W W' : World} (h : Below W.heap.size W W') : KeepsRec n W W' := ⟨h.size, fun k o _ hk _ => (h.block k (lt_of_block hk)).trans hk⟩
theorem KeepsRec.trans {n : Nat} {X Y Z : World} (h : KeepsRec n X Y) (k : KeepsRec n Y Z) : KeepsRec n X Z := ⟨Nat.le_trans h.1 k.1, fun i o hB hi ho => k.2 i o hB (h.2 i o hB hi ho) ho⟩
theorem KeepsRec.setCell {n : Nat} (W : World) (a : Addr) (v : Value) : KeepsRec n W (W.setCell a v) := ⟨(KeepsOthers.setCell W a v).size, fun k o _ hk ho => (KeepsOthers.setCell W a v).same k o hk ho⟩
theorem KeepsRec.grown {n : Nat} {W W' : World} {row : Option Nat} (hg : W.grownBy W' row) (hrow : ∀ (j : Nat) (o : Obj), row = some j → W.heap[j]? = some o → o.isCells = true) : KeepsRec n W W' :=
  ⟨hg.size, fun k o _ hk ho => (KeepsOthers.of_grownBy hg hrow).same k o hk ho⟩

/-- The iterator's word: N rounds, one behind the other; it turns block B alone. -/
def SeqBox (F : Fence) (n : Nat) (P : Program) (g : Nat) (lb : Array Value) (encs : Nat → Array Value) (B N : Nat) (w : World) : Prop :=
  ∀ (l : Nat) (J : Nat → World → Prop) (W : World), Below w.heap.size w W → (∀ s W v, J s W → J s (W.setCell ⟨B, 0, none⟩ v)) →
    (∀ k W1, J k W1 → k < N → YieldAt F (n - 1) P l (encs k) W1 fun e W' => e = .returned (.bool true) ∧ J (k + 1) W' ∧ W'.heap[B]? = W1.heap[B]?) →
    J 0 W → CallsIn F n P g (#[.func (.yield l) #[] #[]] ++ lb) W fun e W' => (∃ v, e = .returned v) ∧ J N W'

theorem wpIn_range_box {F : Fence} {n : Nat} {P : Program} {g : Operand} {ps : Array Tmp} {assign body : Code} {Q : Exit → Act → World → Prop} {a : Act} {w : World}
    (hro : F.round = none) (h1 : 1 ≤ n) {gf : Nat} {lb : Array Value} (hg : a.eval g = .func (.func gf) #[] lb) (hFg : F.fn gf) (eg : ∀ args w, (callFunc gf args).run P w = .ok (.enter gf args) w)
    {encs : Nat → Array Value} (hps : ∀ x, (encs x).size = ps.size) {B N : Nat} (hB : B < w.heap.size) (hseq : SeqBox F (n - 1) P gf lb encs B N w)
    (I : Nat → World → Prop)
    (hI : ∀ s W l o o', I s W → w.heap.size ≤ l → W.heap[l]? = some o → o.isCells = false → I s (W.putObj l o'))
    (hIa : ∀ s W o, I s W → I s (W.alloc o)) (hIB : ∀ s W v, I s W → I s (W.setCell ⟨B, 0, none⟩ v))
    (h0 : I 0 w) (a₁ : Nat → Act)
    (hassign : ∀ (l x : Nat) (W : World) (K : Act → World → Prop), K (a₁ x) W →
      assign.wpIn (F.inRound l) (n - 1 - 1) P (Exit.then K (fun _ _ _ => False)) { tmps := (ps.zip (encs x)).foldl (fun t (p, v) => t.setIfInBounds p v) a.tmps, defers := [] } W)
    (hbody : ∀ (l k : Nat) (W : World), I k W → k < N →
      body.wpIn (F.inRound l) (n - 1 - 1) P (fun e _ W' => e = .normal ∧ KeepsRec w.heap.size W W' ∧ W'.heap[B]? = W.heap[B]? ∧ I (k + 1) W') (a₁ k) W)
    (hdone : ∀ (D : Nat) (W : World), w.heap.size ≤ D → I N W → W.heap[D]? = some (.deferred (some [])) → Q .normal { a with defers := { target := .collected D, args := #[] } :: a.defers } W) :
    (Code.rangeFunc g ps assign body).wpIn F n P Q a w := by
  refine wpIn_rangeFunc ?_
  intro fn hfn
  rw [hro]
  obtain ⟨rec, hrec⟩ : ∃ rec : LoopState → Loop, rec = fun st => { state := st, pending := none, fn, tmps := a.tmps, params := ps, assign, body, defers := w.heap.size } := ⟨_, rfl⟩
  obtain ⟨R, hR⟩ : ∃ R, R = w.heap.size + 1 := ⟨_, rfl⟩
  obtain ⟨W1, hW1⟩ : ∃ W1, (w.alloc (.deferred (some []))).alloc (.loop (rec .ready)) = W1 := ⟨_, rfl⟩
  have hL1 : W1.heap[R]? = some (.loop (rec .ready)) := by
    rw [← hW1, hR]
    have := World.alloc_heap_new (w.alloc (.deferred (some []))) (.loop (rec .ready))
    rwa [World.size_alloc] at this
  have hK1 : W1.heap[w.heap.size]? = some (.deferred (some [])) := by
    rw [← hW1]
    exact (Below.heap_alloc _ _ _ (by simp)).trans (World.alloc_heap_new w _)
  have hI1 : I 0 W1 := by rw [← hW1]; exact hIa _ _ _ (hIa _ _ _ h0)
  have hb1 : Below w.heap.size w W1 := by rw [← hW1]; exact ((Below.refl _ w).alloc (Nat.le_refl _) _).alloc (by simp) _
  have hne1 : B ≠ R := by omega
  have hne2 : B ≠ w.heap.size := by omega
  have hne3 : w.heap.size ≠ R := by omega
  have hother : ∀ (W : World) (v : Value) (k : Nat), B ≠ k → (W.setCell ⟨B, 0, none⟩ v).heap[k]? = W.heap[k]? := fun W v k h => by
    rcases Nat.lt_or_ge k W.heap.size with hk | hk
    · exact (grownBy_setCell' W B v).block k hk (by intro e; cases e; exact h rfl)
    · have e1 : W.heap[k]? = none := Array.getElem?_eq_none hk
      have e2 : (W.setCell ⟨B, 0, none⟩ v).heap[k]? = none := Array.getElem?_eq_none (by simpa using hk)
      rw [e1, e2]
  refine ⟨R, [{ target := .collected w.heap.size, args := #[] }], W1, { target := .fn (.func gf) lb, args := #[.func (.yield R) #[] #[]] }, W1, gf, #[.func (.yield R) #[] #[]] ++ lb, W1, ?_, ?_, ?_, ?_, fun _ => h1, ?_⟩
  · rw [← hW1, hrec, hR]
    exact run_enterLoop_outer _ _ _ _ _
  · simp only [resolve, hg]
    simp [go_sem]
  · intro f' hf'
    simp [Target.leads] at hf'
    subst hf'
    exact hFg
  · simp [invoke, go_sem, eg]
  · refine (hseq R (fun k W => I k W ∧ W.heap[R]? = some (.loop (rec .ready)) ∧ W.heap[w.heap.size]? = some (.deferred (some []))) W1 hb1
      (fun s W v h => ⟨hIB _ _ _ h.1, (hother W v R hne1).trans h.2.1, (hother W v _ hne2).trans h.2.2⟩) ?_ ⟨hI1, hL1, hK1⟩).mono ?_
    · rintro k W ⟨hi, hl, hk⟩ hlen
      have hlt : R < W.heap.size := lt_of_block hl
      have hy := run_yield (P := P) (args := encs k) hl (by rw [hrec]; exact hps k)
      rw [hrec] at hy
      refine ⟨fn, _, assign, body, hy, roundIn_of_wpIn hfn (hassign _ k W _ ⟨_, run_beginRound hl (by rw [hrec]), ?_⟩)⟩
      have hl2 : (W.putObj R (.loop { rec .ready with state := .busy })).heap[R]? = some (.loop { rec .ready with state := .busy }) := World.putObj_heap_same hlt
      have hk2 : (W.putObj R (.loop { rec .ready with state := .busy })).heap[w.heap.size]? = some (.deferred (some [])) := (World.putObj_heap_other (by omega)).trans hk
      have hB2 : (W.putObj R (.loop { rec .ready with state := .busy })).heap[B]? = W.heap[B]? := World.putObj_heap_other (by omega)
      refine wpIn_mono (hbody _ k _ (hI _ _ _ _ _ hi (by omega) hl rfl) hlen) ?_
      rintro e a3 W3 ⟨rfl, hk3, hB3, hi3⟩
      have hl3 := hk3.2 _ _ (by omega) hl2 rfl
      have hend := run_endRound (P := P) none hl3
      refine ⟨_, _, hend, rfl, ⟨hI _ _ _ _ _ hi3 (by omega) hl3 rfl, ?_, (World.putObj_heap_other (by omega)).trans (hk3.2 _ _ (by omega) hk2 rfl)⟩, (World.putObj_heap_other (by omega)).trans (hB3.trans hB2)⟩
      rw [World.putObj_heap_same (lt_of_block hl3), hrec]
      rfl
    · rintro e W2 ⟨⟨v, rfl⟩, hi, hl, hk⟩
      refine ⟨none, _, by have := run_endLoop (P := P) hl (by rw [hrec]; simp); rw [hrec] at this; exact this, hdone _ _ (Nat.le_refl _) (hI _ _ _ _ _ hi (by omega) hl rfl) ((World.putObj_heap_other (by omega)).trans hk)⟩

/-- 'append(v, x...)' in a fenced walk. -/
theorem wpListIn_appV {F : Fence} {nn : Nat} {ts t : TypeId} {s by_ : Nat} (T : SlT ts t s by_) (w : World) {ops : Array Oper} {rest : List Oper} {o : Oper} {a : Act} {Q : Exit → Act → World → Prop} (hgd : o.guard = none) (so x : Operand)
    (ho : o.op = .call { callee := .builtin .append, args := #[so, x], argTypes := #[ts, ts] })
    (B : Nat) (v : Value) (n : Nat) (l : List Value) (hs : a.eval so = v) (hown : OV w B t s v n l) (A : Option Addr) (m c : Nat) (k : List Value) (hx : a.eval x = .slice A m c) (hr : RV w A m s k) (h1 : ∀ u ∈ k, u.oneCell' = true)
    (hb : (n + m) * by_ ≤ 140737488355328) (hm : n + m ≤ 140737488355328) (hB : B ≤ w.heap.size)
    (h : ∀ v' w', OV w' B t s v' (n + m) (l ++ k) → w.grownBy w' v.ownBlock → (v'.ownBlock = v.ownBlock ∨ v'.ownBlock = some w.heap.size) → wpListIn F nn Try.prog ops Q rest (a.put o.dst v') w') :
    wpListIn F nn Try.prog ops Q (o :: rest) a w := by
  refine wpListIn_plain hgd fun K hK => ?_
  obtain ⟨v', w', e1, e2, e3, e4⟩ := run_appV T w o.type B v n l hown A m c k hr h1 hb hm hB
  unfold Oper.wpIn
  refine ⟨?_, ?_⟩
  · simp [Oper.about, ho, resolve, Target.leads, Sem.run_pure]
  · rw [Oper.semAt_plain F _ _ (by rw [ho]; intro c hc'; cases hc')]
    simp [execOp, ho, resolve, invoke, builtin, hs, hx, e1, Result.andThen]
    exact hK _ _ (h v' w' e2 e3 e4)
theorem wpListIn_app {F : Fence} {nn : Nat} (w : World) {ops : Array Oper} {rest : List Oper} {o : Oper} {a : Act} {Q : Exit → Act → World → Prop} (hgd : o.guard = none) (s x : Operand)
    (ho : o.op = .call { callee := .builtin .append, args := #[s, x], argTypes := #[26, 26] })
    (B : Nat) (v : Value) (l : List UInt8) (hs : a.eval s = v) (hown : OB w B v l) (A : Option Addr) (m c : Nat) (k : List UInt8) (hx : a.eval x = .slice A m c) (hr : Rd w A m k)
    (hb : l.length + m ≤ 140737488355328) (hB : B ≤ w.heap.size)
    (h : ∀ v' w', OB w' B v' (l ++ k) → w.grownBy w' v.ownBlock → (v'.ownBlock = v.ownBlock ∨ v'.ownBlock = some w.heap.size) → wpListIn F nn Try.prog ops Q rest (a.put o.dst v') w') :
    wpListIn F nn Try.prog ops Q (o :: rest) a w := by
  refine wpListIn_plain hgd fun K hK => ?_
  obtain ⟨v', w', e1, e2, e3, e4⟩ := run_app w o.type B v l hown A m c k hr hb hB
  unfold Oper.wpIn
  refine ⟨?_, ?_⟩
  · simp [Oper.about, ho, resolve, Target.leads, Sem.run_pure]
  · rw [Oper.semAt_plain F _ _ (by rw [ho]; intro c hc'; cases hc')]
    simp [execOp, ho, resolve, invoke, builtin, hs, hx, e1, Result.andThen]
    exact hK _ _ (h v' w' e2 e3 e4)
end Go.Proofs.Ytleicgigkbfnbaa
