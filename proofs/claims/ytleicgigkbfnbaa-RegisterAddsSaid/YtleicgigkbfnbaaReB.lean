/- What a register's memory says; made, put, New. -/
import Derived.Test.YtleicgigkbfnbaaReA
import Derived.BigRegion
import Derived.Deep.RegionHeld3
import Derived.Deep.RegionLaw
import Derived.Deep.RegionWith
import Derived.Outline
import Derived.RegionTactic
import Derived.StillTailTactics
namespace Go.Proofs.Ytleicgigkbfnbaa
set_option linter.unusedVariables false
set_option linter.unusedSimpArgs false
open Go.RowKit

abbrev RM := Nat → Option (Bool × List UInt8)
/-- The texts lie outside the blocks A. -/
def Holds (A : Nat → Prop) (w : World) : Option (Bool × List UInt8) → Option Value → Prop
  | none, v => v = none
  | some (ln, t), v => ∃ a m cp, v = some (.agg #[.bool ln, .slice a m cp]) ∧ Rd w a m t ∧ m ≤ cp ∧ m ≤ 1048576 ∧ (∀ q, a = some q → ¬ A q.block ∧ q.block < w.heap.size)
def RegIs (A : Nat → Prop) (w : World) (p b c : Nat) (M : RM) (nm : Nat) : Prop :=
  w.heap[p]? = some (.cells #[.map (some b), .int .u8 nm] 50 (0, 0)) ∧ (p ≠ b ∧ A p ∧ ∀ j, A j → j < w.heap.size) ∧ nm < 256 ∧ ∃ V n, Ms w b n V ∧ n ≤ c ∧ ∀ k, k < 256 → Holds A w (M k) (V k)
variable {A : Nat → Prop}
theorem Rd.grownM {w w' : World} {a : Option Addr} {m b : Nat} {l : List UInt8} (h : Rd w a m l) (hg : w.grownBy w' (some b)) (hb : ∃ es clock, w.heap[b]? = some (.map es clock)) : Rd w' a m l := by
  refine ⟨h.1, h.2.1, fun i hi => ?_⟩
  obtain ⟨p, hp, hc⟩ := h.at i hi
  refine ⟨p, hp, ?_⟩
  have hl := lt_of_cell hc
  refine (World.cell?_of_block (hg.block _ hl (fun e => ?_))).trans hc
  obtain ⟨es, clock, hm⟩ := hb
  injection e with e
  rw [World.cell?, e, hm] at hc
  cases hc
theorem Rd.grownA {w w' : World} {a : Option Addr} {m : Nat} {l : List UInt8} {row : Option Nat} (h : Rd w a m l) (hg : w.grownBy w' row) (hr : ∀ r, row = some r → A r) (ha : ∀ q, a = some q → ¬ A q.block ∧ q.block < w.heap.size) : Rd w' a m l := by
  refine ⟨h.1, h.2.1, fun i hi => ?_⟩
  obtain ⟨p, hp, hc⟩ := h.at i hi
  refine ⟨p, hp, (World.cell?_of_block (hg.block _ (lt_of_cell hc) (fun e => ?_))).trans hc⟩
  have e1 : (p.add i).block = p.block := add_block p i
  rw [e1] at e
  exact (ha p hp).1 (hr _ e.symm)
theorem Holds.below {w w' : World} {x : Option (Bool × List UInt8)} {v : Option Value} (h : Holds A w x v) (hb : Below w.heap.size w w') : Holds A w' x v := by
  rcases x with _ | ⟨ln, t⟩
  · exact h
  · obtain ⟨a, m, cp, h1, h2, h3, h4, h5⟩ := h
    exact ⟨a, m, cp, h1, h2.below hb, h3, h4, fun q hq => ⟨(h5 q hq).1, Nat.lt_of_lt_of_le (h5 q hq).2 hb.size⟩⟩
theorem Holds.grownM {w w' : World} {b : Nat} {x : Option (Bool × List UInt8)} {v : Option Value} (h : Holds A w x v) (hg : w.grownBy w' (some b)) (hb : ∃ es clock, w.heap[b]? = some (.map es clock)) : Holds A w' x v := by
  rcases x with _ | ⟨ln, t⟩
  · exact h
  · obtain ⟨a, m, cp, h1, h2, h3, h4, h5⟩ := h
    exact ⟨a, m, cp, h1, h2.grownM hg hb, h3, h4, fun q hq => ⟨(h5 q hq).1, Nat.lt_of_lt_of_le (h5 q hq).2 hg.size⟩⟩
theorem RegIs.below {w w' : World} {p b c nm : Nat} {M : RM} (h : RegIs A w p b c M nm) (hb : Below w.heap.size w w') : RegIs A w' p b c M nm := by
  obtain ⟨h1, h2, h3, V, n, h4, h5, h6⟩ := h
  exact ⟨(hb.block _ (lt_of_block h1)).trans h1, ⟨h2.1, h2.2.1, fun j hj => Nat.lt_of_lt_of_le (h2.2.2 j hj) hb.size⟩, h3, V, n, h4.below hb, h5, fun k hk => (h6 k hk).below hb⟩
theorem RegIs.mono {w : World} {p b c c' nm : Nat} {M : RM} (h : RegIs A w p b c M nm) (hc : c ≤ c') : RegIs A w p b c' M nm := by
  obtain ⟨h1, h2, h3, V, n, h4, h5, h6⟩ := h
  exact ⟨h1, h2, h3, V, n, h4, by omega, h6⟩
theorem RegIs.lt {w : World} {p b c nm : Nat} {M : RM} (h : RegIs A w p b c M nm) : p < w.heap.size ∧ b < w.heap.size := by
  obtain ⟨h1, h2, h3, V, n, h4, -⟩ := h
  exact ⟨lt_of_block h1, h4.lt⟩
/-- Another block was written, of those that the texts avoid; new blocks may be avoided from now on. -/
theorem RegIs.grow {A' : Nat → Prop} {w w' : World} {p b c nm : Nat} {M : RM} {row : Option Nat} (h : RegIs A w p b c M nm) (hg : w.grownBy w' row) (hr : ∀ r, row = some r → A r ∧ r ≠ p ∧ r ≠ b) (hA : ∀ j, A' j → (A j ∨ w.heap.size ≤ j) ∧ j < w'.heap.size) (hp : A' p) : RegIs A' w' p b c M nm := by
  obtain ⟨h1, h2, h3, V, n, h4, h5, h6⟩ := h
  refine ⟨(hg.block _ (lt_of_block h1) (fun e => (hr _ e.symm).2.1 rfl)).trans h1, ⟨h2.1, hp, fun j hj => (hA j hj).2⟩, h3, V, n, h4.kept hg (fun e => (hr b e.symm).2.2 rfl), h5, fun k hk => ?_⟩
  have hh := h6 k hk
  rcases hM : M k with _ | ⟨ln, t⟩
  · rw [hM] at hh
    exact hh
  · rw [hM] at hh
    obtain ⟨a, m, cp, g1, g2, g3, g4, g5⟩ := hh
    refine ⟨a, m, cp, g1, g2.grownA hg (fun r e => (hr r e).1) g5, g3, g4, fun q hq => ⟨fun hAq => ?_, Nat.lt_of_lt_of_le (g5 q hq).2 hg.size⟩⟩
    rcases (hA _ hAq).1 with h | h
    · exact (g5 q hq).1 h
    · have := (g5 q hq).2
      omega
/-- The name that was set last is another. -/
theorem RegIs.name {w : World} {p b c nm : Nat} {M : RM} (h : RegIs A w p b c M nm) (k : Nat) (hk : k < 256) : RegIs A (w.setCell ⟨p, 1, none⟩ (.int .u8 k)) p b c M k := by
  obtain ⟨h1, h2, h3, V, n, h4, h5, h6⟩ := h
  have hg : w.grownBy (w.setCell ⟨p, 1, none⟩ (.int .u8 k)) (some p) := by
    have hc := (Chg.refl (fun i => i = p) w).setCell ⟨p, 1, none⟩ (.int .u8 k) (.inr rfl)
    exact ⟨hc.os, hc.tape, hc.output, hc.size, fun i hi hne => hc.block i hi (fun e => hne (by rw [e]))⟩
  refine ⟨blk_setCell h1 1 _, ⟨h2.1, h2.2.1, fun j hj => Nat.lt_of_lt_of_le (h2.2.2 j hj) hg.size⟩, hk, V, n, h4.kept hg (by intro e; injection e with e; exact h2.1 e.symm), h5, fun j hj => ?_⟩
  have hh := h6 j hj
  rcases hM : M j with _ | ⟨ln, t⟩
  · rw [hM] at hh
    exact hh
  · rw [hM] at hh
    obtain ⟨a, m, cp, g1, g2, g3, g4, g5⟩ := hh
    exact ⟨a, m, cp, g1, g2.grownA hg (fun r e => by cases e; exact h2.2.1) g5, g3, g4, fun q hq => ⟨(g5 q hq).1, Nat.lt_of_lt_of_le (g5 q hq).2 hg.size⟩⟩
/-- A text was stored. -/
theorem RegIs.stored {w w1 w' : World} {p b c nm n : Nat} {M : RM} {V : Nat → Option Value} {a : Option Addr} {m cp k : Nat} {ln : Bool} {t : List UInt8} (h1 : w.heap[p]? = some (.cells #[.map (some b), .int .u8 nm] 50 (0, 0))) (h2 : p ≠ b ∧ A p ∧ ∀ j, A j → j < w.heap.size) (h3 : nm < 256)
    (h4 : Ms w b n V) (h5 : n ≤ c) (h6 : ∀ k, k < 256 → Holds A w (M k) (V k)) (hb : Below w.heap.size w w1) (hr : Rd w1 a m t) (hm : m ≤ cp) (hm2 : m ≤ 1048576) (ha : ∀ q, a = some q → w.heap.size ≤ q.block ∧ q.block < w1.heap.size)
    (hs : Ms w' b (n + 1) (upd V k (some (.agg #[.bool ln, .slice a m cp])))) (hg : w1.grownBy w' (some b)) : RegIs A w' p b (c + 1) (upd M k (some (ln, t))) nm ∧ Chg (fun j => j = p ∨ j = b) w w' := by
  have hbo := (h4.below hb).obj
  refine ⟨⟨(hg.block _ (by have := lt_of_block h1; have := hb.size; omega) (by intro e; injection e with e; exact h2.1 e)).trans ((hb.block _ (lt_of_block h1)).trans h1), ⟨h2.1, h2.2.1, fun j hj => Nat.lt_of_lt_of_le (h2.2.2 j hj) (Nat.le_trans hb.size hg.size)⟩, h3, _, _, hs, by omega, fun j hj => ?_⟩, ?_⟩
  · unfold upd
    by_cases he : j = k
    · rw [if_pos he, if_pos he]
      exact ⟨a, m, cp, rfl, hr.grownM hg hbo, hm, hm2, fun q hq => ⟨fun hA => by have := h2.2.2 _ hA; have := (ha q hq).1; omega, Nat.lt_of_lt_of_le (ha q hq).2 hg.size⟩⟩
    · rw [if_neg he, if_neg he]
      exact ((h6 j hj).below hb).grownM hg hbo
  · have hc := Chg.of_below hb (fun j => j = p ∨ j = b)
    have s1 := hb.size
    exact ⟨hg.os.trans hc.os, hg.tape.trans hc.tape, hg.output.trans hc.output, Nat.le_trans hc.size hg.size, fun i hi hS => (hg.block i (by omega) (by intro e; injection e with e; exact hS (.inr e))).trans (hc.block i hi hS)⟩
theorem step_put (w : World) {ops : Array Oper} {o : Oper} {a : Act} {K : Act → World → Prop} {Q : Exit → Act → World → Prop} {E : Prop} (hgd : o.guard = none) (m x v : Operand)
    (hop : o.op = Op.mapUpdate 48 m x v) (b n : Nat) (V : Nat → Option Value) (hm : a.eval m = .map (some b)) (h : Ms w b n V) (hn : n < maxLen) (k : Nat) (hk : k < 256) (hx : a.eval x = .int .u8 k) (val : Value) (hv : a.eval v = val)
    (hK : ∀ w', Ms w' b (n + 1) (upd V k (some val)) → w.grownBy w' (some b) → K (a.put o.dst undef) w') :
    if Region.wanted o (yielded ops a.tmps) = true then Oper.wp Try.prog o a w K Q else E := by
  have hw : Region.wanted o (yielded ops a.tmps) = true := by simp [Region.wanted, hgd]
  rw [if_pos hw]
  obtain ⟨w', e1, e2, e3⟩ := h.store k hk hn val
  unfold Oper.wp
  simp [execOp, hop, hm, hx, hv, e1, Result.andThen]
  exact hK _ e2 e3
theorem new_any (w : World) : Calls Try.prog 9 #[] w fun e w' => e = .returned (.pointer (some ⟨w.heap.size + 1, 0, none⟩)) ∧ RegIs (fun j => j = w.heap.size + 1) w' (w.heap.size + 1) w.heap.size 0 (fun _ => none) 48 ∧ Below w.heap.size w w' := by
  have hmm := @run_makeMap Try.prog
  go_enter Try.func9, Try.ntmps9
  go_wp2
  go_ret
  have hb : Below w.heap.size w ((w.alloc (.map #[] 0)).alloc (.cells #[.map (some w.heap.size), .int .u8 48] 50)) := ((Below.refl _ w).alloc (Nat.le_refl _) _).alloc (by simp) _
  refine ⟨rfl, ⟨?_, ⟨by omega, rfl, fun j hj => by subst hj; simp⟩, by omega, _, 0, (Ms.made w).below ((Below.refl _ _).alloc (Nat.le_refl _) _), Nat.le_refl _, fun k hk => rfl⟩, hb⟩
  have h := alloc_new (w.alloc (.map #[] 0)) (.cells #[.map (some w.heap.size), .int .u8 48] 50) _ rfl
  simpa using h
theorem made_any (p b c nm : Nat) (M : RM) (w : World) (h : RegIs A w p b c M nm) : Calls Try.prog 26 #[.pointer (some ⟨p, 0, none⟩)] w fun e w' => e = .returned (.bool true) ∧ w' = w := by
  have g := cell_blk h.1
  have he : ∀ w : World, (binOp .neq 48 (.map (some b)) (.map none)).run Try.prog w = .ok (.bool true) w := fun _ => rfl
  clear h
  go_enter Try.func26, Try.ntmps26
  go_wp2
  go_ret
  exact ⟨rfl, rfl⟩
set_option maxRecDepth 100000 in
set_option maxHeartbeats 1600000 in
theorem put_any (p b c nm k : Nat) (ln : Bool) (a : Option Addr) (m cp : Nat) (t : List UInt8) (M : RM) (w : World) (h : RegIs A w p b c M nm) (hc : c ≤ 1000000) (hk : k < 256) (hr : Rd w a m t) (hm : m ≤ 1048576) :
    Calls Try.prog 27 #[.pointer (some ⟨p, 0, none⟩), .int .u8 k, .bool ln, .slice a m cp] w fun e w' => (∃ v, e = .returned v) ∧ RegIs A w' p b (c + 1) (upd M k (some (ln, t))) nm ∧ Chg (fun j => j = p ∨ j = b) w w' := by
  obtain ⟨h1, h2, h3, V, n, h4, h5, h6⟩ := h
  have hml := hr.1
  have HC := Lib.hid (fun w (h : Rd w a m t) => clone_any a m cp t w h hm)
  have HR := Lib.hid hr
  have HM := Lib.hid h4
  have H1 := Lib.hid h1
  have H6 := Lib.hid h6
  have hlp := lt_of_block h1
  have hB : Below w.heap.size w w.drew := ⟨rfl, rfl, rfl, Nat.le_refl _, fun _ _ => rfl⟩
  have kp : ∀ w', Below w.heap.size w w' → ∀ i, w'.cell? ⟨p, i, none⟩ = (#[.map (some b), .int .u8 nm] : Array Value)[i]? := fun w' h => cell_blk ((h.block _ hlp).trans H1.out)
  have KP := Lib.hid kp
  have gp := kp w (Below.refl _ _)
  have hn : n < maxLen := by unfold maxLen; omega
  have HML := Lib.hid hml
  clear hr h4 h1 h6 kp hml
  go_enter Try.func27, Try.ntmps27
  go_wp2
  go_region_held3 (fun w' => ∀ i, w'.cell? ⟨p, i, none⟩ = (#[.map (some b), .int .u8 nm] : Array Value)[i]?)
    (first
      | exact KP.out _ hB
      | exact KP.out _ hb1'
      | exact cell_blk ((HG2.out.block p (Nat.lt_of_lt_of_le hlp hb1'.size) (by intro e; injection e with e; exact h2.1 e)).trans ((hb1'.block _ hlp).trans H1.out)))
    (first
      | (go_at_call 28; refine (HC.out _ (HR.out.below hB)).mono ?_; rintro e w1 ⟨v1, rfl, ho1, hb1⟩; have hb1' := below_then hB hb1 hB.size; obtain ⟨a1, c1, hv1, hr1, hc1, hp1, -⟩ := ho1.form; subst hv1; obtain ⟨w2, hrun, hms, hg2⟩ := (HM.out.below hb1').store k hk hn (.agg #[.bool ln, .slice a1 t.length c1]); have HMS := Lib.hid hms; have HG2 := Lib.hid hg2; have HR1 := Lib.hid hr1; have HP1 := Lib.hid hp1; clear hms hg2 hr1 hp1 ho1))
  all_goals
    go_wp2
    go_end0
    have hst := RegIs.stored (c := c) (M := M) H1.out h2 h3 HM.out h5 H6.out hb1' HR1.out hc1 (by rw [HML.out]; exact hm) (fun q hq => ⟨(HP1.out q hq).1, (HP1.out q hq).2.1⟩) HMS.out HG2.out
    exact ⟨⟨_, rfl⟩, hst⟩
end Go.Proofs.Ytleicgigkbfnbaa
