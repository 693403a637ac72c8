/- The pool: a map or a frame turned; made, must, there, use, drop. -/
import Derived.Test.YtocepcibcapfbaaGreatJ24
namespace Go.Proofs.YtocepcibcapfbaaGreat
set_option linter.unusedVariables false
set_option linter.unusedSimpArgs false
set_option linter.unusedSectionVars false
open Go.RowKit
variable [Inhabited AvT]
variable {B o c : Nat} {w : World} {p d np N : Nat} {xd : P.Dv} {M : Nat → Option P.Fr} {od : List Nat} {mb n : Nat} {F : Nat → Nat} {vo : Value} {V : Int → Option Value}

/-- The map was turned. -/
theorem PoS.mapd {w' : World} (h : PoS B o c w p d np N xd M od mb n F vo V) (hg : w.grownBy w' (some mb)) {n' : Nat} {V' : Int → Option Value} {M' : Nat → Option P.Fr} {F' : Nat → Nat} (hm : Mi w' mb n' V') (hn' : n' ≤ c)
    (hl : ∀ k, V' k = if 0 ≤ k then (M' k.toNat).map (fun _ => .pointer (some ⟨F' k.toNat, 0, none⟩)) else none) (hf : ∀ n f, M' n = some f → f.pg = n ∧ FrIs B w (F' n) f ∧ n < np ∧ f.pins ≤ c) (hi : ∀ n m f g, M' n = some f → M' m = some g → F' n = F' m → n = m) :
    PoS B o c w' p d np N xd M' od mb n' F' vo V' ∧ Ty B poT w w' := by
  have ht : Ty B (fun t => t = none) w w' := ⟨hg.os, hg.tape, hg.output, hg.size, fun k hk => by
      by_cases e : k = mb
      · rw [e, hm.tag, h.map.tag]
      · exact tagA_eq (hg.block k hk (fun e' => e (Option.some.inj e'))), fun k hk hn => hg.block k hk (fun e' => hn (by cases e'; exact h.low.2) _ (by cases e'; exact h.map.tag) rfl)⟩
  obtain ⟨k1, k2, k3, k4, k5, k6⟩ := h.keep ht
  exact ⟨⟨k1 (by decide), h.low, k2 ⟨by decide, by decide, by decide, by decide⟩, hm, hn', hl, k4 (by decide), h.own, fun n f e => ⟨(hf n f e).1, (hf n f e).2.1.ty ht (by decide) (by decide), (hf n f e).2.2⟩, hi, k6, h.big⟩, ht.mono (Nat.le_refl _) (fun t h => .inr (.inr (.inr h)))⟩
/-- A frame's cell was turned. -/
theorem PoS.framed {w' : World} (h : PoS B o c w p d np N xd M od mb n F vo V) {m i : Nat} {f f' : P.Fr} {u : Value} (hm : M m = some f) (hw : w' = w.setCell ⟨F m, i, none⟩ u) (hpg : f'.pg = m) (hf : FrIs B w' (F m) f') (hp : f'.pins ≤ c) :
    PoS B o c w' p d np N xd (fun k => if k = m then some f' else M k) od mb n F vo V ∧ Ty B poT w w' := by
  obtain ⟨e1, hfr, hlt, hpc⟩ := h.fr m f hm
  have ht : Ty B (fun t => t = some 77) w w' := by
    rw [hw]
    exact (Ty.refl _ _ _).setCell _ _ (.inr ⟨by obtain ⟨a, q, c', -, -, k, -⟩ := hfr; exact k, _, hfr.tag, rfl⟩)
  obtain ⟨k1, k2, k3, k4, -, k6⟩ := h.keep ht
  refine ⟨⟨k1 (by decide), h.low, k2 ⟨by decide, by decide, by decide, by decide⟩, k3 (by decide), h.cap, fun k => ?_, k4 (by decide), h.own, fun j g hj => ?_, fun j k g g' hj hk e => ?_, k6, h.big⟩, ht.mono (Nat.le_refl _) (fun t h => .inr (.inr (.inl h)))⟩
  · rw [h.look k]
    by_cases hk : 0 ≤ k
    · rw [if_pos hk, if_pos hk]
      by_cases e : k.toNat = m
      · rw [if_pos e, e, hm]
        rfl
      · rw [if_neg e]
    · rw [if_neg hk, if_neg hk]
  · by_cases e : j = m
    · subst e
      rw [if_pos rfl] at hj
      cases hj
      exact ⟨hpg, hf, hlt, hp⟩
    · rw [if_neg e] at hj
      obtain ⟨g1, g2, g3⟩ := h.fr j g hj
      refine ⟨g1, ?_, g3⟩
      have hne : F j ≠ F m := fun e' => e (h.inj j m g f hj hm e')
      obtain ⟨a, q, c', x1, x2, x3, x4⟩ := g2
      exact ⟨a, q, c', by rw [hw, Below.heap_setCell _ _ _ _ hne]; exact x1, x2.ty ht (by decide), x3, x4⟩
  · have hs : ∀ i, ∀ g, (if i = m then some f' else M i) = some g → ∃ g, M i = some g := fun i g hi => by
      by_cases e : i = m
      · rw [e]; exact ⟨f, hm⟩
      · rw [if_neg e] at hi; exact ⟨g, hi⟩
    obtain ⟨g1, hg1⟩ := hs j g hj
    obtain ⟨g2, hg2⟩ := hs k g' hk
    exact h.inj j k g1 g2 hg1 hg2 e
/-- An error of the api's, thrown. -/
abbrev panE (k : Int) : Ending := .panicked [{ v := .iface 26 (.int .i64 k), recovered := false }]
theorem pmade_any (h : PoS B o c w p d np N xd M od mb n F vo V) : Calls Tryz.prog 54 #[.pointer (some ⟨p, 0, none⟩)] w fun e w' => e = .returned (.bool true) ∧ w = w' := by
  have g := cell_blk h.pool
  unfold poolC at g
  clear h
  go_enter Tryz.func54, Tryz.ntmps54
  go_wp2
  go_ret
  exact ⟨rfl, rfl⟩
theorem mustp_ok (w : World) : Calls Tryz.prog 43 #[.int .i64 0] w fun e w' => e = .returned (.tuple #[]) ∧ w = w' := by
  go_enter Tryz.func43, Tryz.ntmps43
  go_wp2
  go_end0
  exact ⟨rfl, rfl⟩
theorem mustp_no (k : Int) (hk : k ≠ 0) (w : World) : Calls Tryz.prog 43 #[.int .i64 k] w fun e w' => e = panE k ∧ Below w.heap.size w w' := by
  have z : (k != 0) = true := by simpa using hk
  have H := Lib.hid ((Below.refl w.heap.size w))
  clear hk
  go_enter Tryz.func43, Tryz.ntmps43
  go_wp2
  exact ⟨rfl, ⟨rfl, H.out⟩⟩
theorem pthere_ok (h : PoS B o c w p d np N xd M od mb n F vo V) (k : Nat) (hk : k < np) : Calls Tryz.prog 41 #[.pointer (some ⟨p, 0, none⟩), .int .i64 (k : Int)] w fun e w' => e = .returned (.tuple #[]) ∧ w = w' := by
  have HP := Lib.hid (dfpages_any B d np xd w h.dev)
  have g := cell_blk h.pool
  unfold poolC at g
  have i0 : (0 : Int) ≤ (k : Int) := by omega
  have i1 : (k : Int) < (np : Int) := by omega
  clear h
  go_enter Tryz.func41, Tryz.ntmps41
  go_wp2_with (go_at_call 74; refine HP.out.mono ?_; rintro e w1 ⟨rfl, rfl⟩)
  go_end0
  exact ⟨rfl, rfl⟩
theorem pthere_no (h : PoS B o c w p d np N xd M od mb n F vo V) (k : Int) (hk : ¬ (0 ≤ k ∧ k < (np : Int))) : Calls Tryz.prog 41 #[.pointer (some ⟨p, 0, none⟩), .int .i64 k] w fun e w' => e = panE 1 ∧ Below w.heap.size w w' := by
  have HP := Lib.hid (dfpages_any B d np xd w h.dev)
  have HB := Lib.hid ((Below.refl w.heap.size w))
  have g := cell_blk h.pool
  unfold poolC at g
  clear h
  by_cases h0 : 0 ≤ k
  · have i1 : (np : Int) ≤ k := by omega
    clear hk
    go_enter Tryz.func41, Tryz.ntmps41
    go_wp2_with (go_at_call 74; refine HP.out.mono ?_; rintro e w1 ⟨rfl, rfl⟩)
    exact ⟨rfl, ⟨rfl, HB.out⟩⟩
  · have i1 : k < 0 := by omega
    clear hk
    go_enter Tryz.func41, Tryz.ntmps41
    go_wp2
    exact ⟨rfl, ⟨rfl, HB.out⟩⟩
end Go.Proofs.YtocepcibcapfbaaGreat
