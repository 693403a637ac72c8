/- The pool: a new frame; Put's closure: what it leans on. -/
import Derived.Test.YtocepcibcapfbaaGreatJ33
namespace Go.Proofs.YtocepcibcapfbaaGreat
set_option linter.unusedVariables false
set_option linter.unusedSimpArgs false
set_option linter.unusedSectionVars false
open Go.RowKit
variable [Inhabited AvT]
variable {B o c : Nat} {w : World} {p d np N : Nat} {xd : P.Dv} {M : Nat → Option P.Fr} {od : List Nat} {mb n : Nat} {F : Nat → Nat} {vo : Value} {V : Int → Option Value}

/-- A frame was turned. -/
theorem PoS.framed2 {w' : World} (h : PoS B o c w p d np N xd M od mb n F vo V) {m : Nat} {f f' : P.Fr} (hm : M m = some f) (hc : Chg (fun k => k = F m) w w') (hpg : f'.pg = m) (hf : FrIs B w' (F m) f') (hp : f'.pins ≤ c) :
    PoS B o c w' p d np N xd (MnS M m f') od mb n F vo V ∧ Ty B poT w w' := by
  obtain ⟨e1, hfr, hlt, hpc⟩ := h.fr m f hm
  have ht : Ty B (fun t => t = some 77) w w' := by
    obtain ⟨a, q, c', k1, -, k, -⟩ := hfr
    obtain ⟨a2, q2, c2, k2, -⟩ := hf
    exact (Ty.of_chg hc k1 k2).mono k (fun _ h => h)
  obtain ⟨k1, k2, k3, k4, -, k6⟩ := h.keep ht
  refine ⟨⟨k1 (by decide), h.low, k2 ⟨by decide, by decide, by decide, by decide⟩, k3 (by decide), h.cap, fun k => ?_, k4 (by decide), h.own, fun j g hj => ?_, fun j k g g' hj hk e => ?_, k6, h.big⟩, ht.mono (Nat.le_refl _) (fun t h => .inr (.inr (.inl h)))⟩
  · rw [h.look k]
    unfold MnS
    by_cases hk : 0 ≤ k
    · rw [if_pos hk, if_pos hk]
      by_cases e : k.toNat = m
      · rw [if_pos e, e, hm]
        rfl
      · rw [if_neg e]
    · rw [if_neg hk, if_neg hk]
  · unfold MnS at hj
    by_cases e : j = m
    · subst e
      rw [if_pos rfl] at hj
      cases hj
      exact ⟨hpg, hf, hlt, hp⟩
    · rw [if_neg e] at hj
      obtain ⟨g1, g2, g3⟩ := h.fr j g hj
      refine ⟨g1, ?_, g3⟩
      have hne : F j ≠ F m := fun e' => e (h.inj j m g f hj hm e')
      obtain ⟨a, q, c', x1, x2, x3, x4⟩ := g2
      exact ⟨a, q, c', (hc.block _ (lt_of_block x1) hne).trans x1, x2.ty ht (by decide), x3, x4⟩
  · have hs : ∀ i, ∀ g, MnS M m f' i = some g → ∃ g, M i = some g := fun i g hi => by
      unfold MnS at hi
      by_cases e : i = m
      · rw [e]; exact ⟨f, hm⟩
      · rw [if_neg e] at hi; exact ⟨g, hi⟩
    obtain ⟨g1, hg1⟩ := hs j g hj
    obtain ⟨g2, hg2⟩ := hs k g' hk
    exact h.inj j k g1 g2 hg1 hg2 e
def FnS (F : Nat → Nat) (k fb : Nat) : Nat → Nat := fun m => if m = k then fb else F m
/-- A page more. -/
theorem PoS.newd {w5 : World} {k fb n' : Nat} {f : P.Fr} (h : PoS B o c w p d np N xd M od mb n F vo V) (hfb : FrIs B w fb f) (hne : ∀ m g, M m = some g → F m ≠ fb) (hm : Mi w5 mb n' (updI V (k : Int) (some (.pointer (some ⟨fb, 0, none⟩))))) (hg : w.grownBy w5 (some mb)) (hk : k < np) (hpg : f.pg = k) (hp : f.pins ≤ c) (hn : n' ≤ c) :
    PoS B o c w5 p d np N xd (MnS M k f) od mb n' (FnS F k fb) vo (updI V (k : Int) (some (.pointer (some ⟨fb, 0, none⟩)))) ∧ Ty B poT w w5 := by
  refine h.mapd hg hm hn (fun j => ?_) (fun j g hj => ?_) (fun i j g g' hi hj e => ?_)
  · unfold updI MnS FnS
    rw [h.look j]
    by_cases hjk : j = (k : Int)
    · subst hjk
      rw [if_pos rfl, if_pos (by omega), Int.toNat_natCast, if_pos rfl, if_pos rfl]
      rfl
    · rw [if_neg hjk]
      by_cases h0 : 0 ≤ j
      · rw [if_pos h0, if_pos h0, if_neg (by omega), if_neg (by omega)]
      · rw [if_neg h0, if_neg h0]
  · unfold MnS at hj
    unfold FnS
    by_cases e : j = k
    · rw [if_pos e] at hj ⊢
      cases hj
      exact ⟨by rw [hpg, e], hfb, by omega, hp⟩
    · rw [if_neg e] at hj ⊢
      exact h.fr j g hj
  · unfold MnS at hi hj
    unfold FnS at e
    by_cases e1 : i = k
    · by_cases e2 : j = k
      · omega
      · rw [if_pos e1, if_neg e2] at e
        rw [if_neg e2] at hj
        exact absurd e.symm (hne j g' hj)
    · by_cases e2 : j = k
      · rw [if_neg e1, if_pos e2] at e
        rw [if_neg e1] at hi
        exact absurd e (hne i g hi)
      · rw [if_neg e1, if_neg e2] at e
        rw [if_neg e1] at hi
        rw [if_neg e2] at hj
        exact h.inj i j g g' hi hj e
theorem mns_use (l : List P.Fr) (k : Nat) (f : P.Fr) (hf : f.pg = k) : MnS (P.at? l) k f = P.at? (P.off l k ++ [f]) := by
  funext m
  unfold MnS
  rw [P.at_snoc]
  by_cases e : m = k
  · rw [if_pos e, e, P.at_off_self, if_pos ⟨rfl, hf⟩]
  · rw [if_neg e, P.at_off_ne l k m e, if_neg (fun h => e (by omega))]
theorem use_od (l : List P.Fr) (k : Nat) (f : P.Fr) (hf : f.pg = k) : ((l.map (·.pg)).filter fun m => m != k) ++ [k] = (P.off l k ++ [f]).map (·.pg) := by
  rw [List.map_append, P.off_map, List.map_cons, hf]
  rfl
theorem there_xd {x : P.Po} (h : PoIs B o c w p d np N x) (k : Nat) (hk : k < np) : Calls Tryz.prog 41 #[.pointer (some ⟨p, 0, none⟩), .int .i64 (k : Int)] w fun e w' => e = .returned (.tuple #[]) ∧ w = w' := by
  obtain ⟨⟨mb, n, F, vo, V, hs⟩, -⟩ := h
  exact pthere_ok hs k hk
theorem there_xn {x : P.Po} (h : PoIs B o c w p d np N x) (k : Int) (hk : ¬ (0 ≤ k ∧ k < (np : Int))) : Calls Tryz.prog 41 #[.pointer (some ⟨p, 0, none⟩), .int .i64 k] w fun e w' => e = panE 1 ∧ Below w.heap.size w w' := by
  obtain ⟨⟨mb, n, F, vo, V, hs⟩, -⟩ := h
  exact pthere_no hs k hk
end Go.Proofs.YtocepcibcapfbaaGreat
