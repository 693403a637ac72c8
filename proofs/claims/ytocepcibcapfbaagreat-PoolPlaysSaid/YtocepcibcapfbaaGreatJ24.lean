/- What a pool's memory says. -/
import Derived.Test.YtocepcibcapfbaaGreatJ22
import Derived.Test.YtocepcibcapfbaaGreatJ17
import Derived.Test.YtocepcibcapfbaaGreatJ23
namespace Go.Proofs.YtocepcibcapfbaaGreat
set_option linter.unusedVariables false
set_option linter.unusedSimpArgs false
set_option linter.unusedSectionVars false
open Go.RowKit
variable [Inhabited AvT]

def poolC (d N mb : Nat) (vo : Value) : Array Value := #[.pointer (some ⟨d, 0, none⟩), .int .i64 (N : Int), .map (some mb), vo]
def frC (v : Value) (dirty : Bool) (pins : Nat) : Array Value := #[v, .bool dirty, .int .i64 (pins : Int)]
/-- The kinds that a pool's calls turn. -/
def poT (t : Option TypeId) : Prop := devT t ∨ t = some 69 ∨ t = some 77 ∨ t = none
/-- Kinds that are none of a pool's. -/
def NoPo (T : Option TypeId → Prop) : Prop := NoDev T ∧ ¬ T (some 69) ∧ ¬ T (some 77) ∧ ¬ T none ∧ ¬ T (some 3)
def FrIs (B : Nat) (w : World) (fb : Nat) (f : P.Fr) : Prop := ∃ a m c, w.heap[fb]? = some (.cells (frC (.slice a m c) f.dirty f.pins) 77 (0, 0)) ∧ RB w a m f.b ∧ B ≤ fb ∧ f.b.length ≤ 256
theorem FrIs.ty {B C : Nat} {T : Option TypeId → Prop} {w w' : World} {fb : Nat} {f : P.Fr} (h : FrIs B w fb f) (hw : Ty C T w w') (h1 : ¬ T (some 77)) (h2 : ¬ T (some 5)) : FrIs B w' fb f := by
  obtain ⟨a, m, c, k1, k2, k3, k4⟩ := h
  exact ⟨a, m, c, hw.cells k1 (.inr h1), k2.ty hw h2, k3, k4⟩
theorem FrIs.tag {B : Nat} {w : World} {fb : Nat} {f : P.Fr} (h : FrIs B w fb f) : tagA w fb = some (some 77) := by
  obtain ⟨a, m, c, k1, -⟩ := h
  exact tagA_cells k1
/-- Block p is a pool of N frames over device d: the frames M, by page; the pages in the order of their use. -/
structure PoS (B o c : Nat) (w : World) (p d np N : Nat) (xd : P.Dv) (M : Nat → Option P.Fr) (od : List Nat) (mb n : Nat) (F : Nat → Nat) (vo : Value) (V : Int → Option Value) : Prop where
  pool : w.heap[p]? = some (.cells (poolC d N mb vo) 69 (0, 0))
  low : B ≤ p ∧ B ≤ mb
  dev : DvIs B w d np xd
  map : Mi w mb n V
  cap : n ≤ c
  look : ∀ k, V k = if 0 ≤ k then (M k.toNat).map (fun _ => .pointer (some ⟨F k.toNat, 0, none⟩)) else none
  ord : OV w B 3 1 vo od.length (ivs (od.map Int.ofNat))
  own : ∀ k, vo.ownBlock = some k → k = o
  fr : ∀ n f, M n = some f → f.pg = n ∧ FrIs B w (F n) f ∧ n < np ∧ f.pins ≤ c
  inj : ∀ n m f g, M n = some f → M m = some g → F n = F m → n = m
  ot : (tagA w o = some (some 3) ∨ o = p) ∧ B ≤ o
  big : c ≤ 1000000 ∧ (8 ≤ N ∧ N ≤ 4096) ∧ (∀ m ∈ od, m < np) ∧ od.length ≤ 5000 ∧ (8 ≤ np ∧ np ≤ 4096)
variable {B o c : Nat} {w : World} {p d np N : Nat} {xd : P.Dv} {M : Nat → Option P.Fr} {od : List Nat} {mb n : Nat} {F : Nat → Nat} {vo : Value} {V : Int → Option Value}
theorem PoS.lt (h : PoS B o c w p d np N xd M od mb n F vo V) : p < w.heap.size ∧ o < w.heap.size := by
  refine ⟨lt_of_block h.pool, ?_⟩
  rcases h.ot.1 with e | e
  · exact tagA_lt e
  · rw [e]; exact lt_of_block h.pool
/-- The pool's parts at another world. -/
theorem PoS.keep {w' : World} (h : PoS B o c w p d np N xd M od mb n F vo V) {C : Nat} {T : Option TypeId → Prop} (hw : Ty C T w w') :
    (¬ T (some 69) → w'.heap[p]? = some (.cells (poolC d N mb vo) 69 (0, 0))) ∧ (NoDev T → DvIs B w' d np xd) ∧ (¬ T none → Mi w' mb n V) ∧ (¬ T (some 3) → OV w' B 3 1 vo od.length (ivs (od.map Int.ofNat))) ∧
      (¬ T (some 77) → ¬ T (some 5) → ∀ n f, M n = some f → f.pg = n ∧ FrIs B w' (F n) f ∧ n < np ∧ f.pins ≤ c) ∧ ((tagA w' o = some (some 3) ∨ o = p) ∧ B ≤ o) :=
  ⟨fun h1 => hw.cells h.pool (.inr h1), fun h1 => h.dev.ty hw h1, fun h1 => h.map.kept (hw.block _ h.map.lt (fun _ t e => by rw [h.map.tag] at e; cases e; exact h1)), fun h1 => h.ord.ty hw (fun _ _ => .inr h1),
    fun h1 h2 n f e => ⟨(h.fr n f e).1, (h.fr n f e).2.1.ty hw h1 h2, (h.fr n f e).2.2⟩, ⟨h.ot.1.imp (fun e => by rw [hw.tag _ (tagA_lt e)]; exact e) id, h.ot.2⟩⟩
theorem PoS.ty {w' : World} (h : PoS B o c w p d np N xd M od mb n F vo V) {C : Nat} {T : Option TypeId → Prop} (hw : Ty C T w w') (hT : NoPo T) : PoS B o c w' p d np N xd M od mb n F vo V := by
  obtain ⟨k1, k2, k3, k4, k5, k6⟩ := h.keep hw
  exact ⟨k1 hT.2.1, h.low, k2 hT.1, k3 hT.2.2.2.1, h.cap, h.look, k4 hT.2.2.2.2, h.own, k5 hT.2.2.1 hT.1.2.2.2, h.inj, k6, h.big⟩
theorem PoS.below {w' : World} (h : PoS B o c w p d np N xd M od mb n F vo V) (hb : Below w.heap.size w w') : PoS B o c w' p d np N xd M od mb n F vo V :=
  h.ty (Ty.of_below (B := 0) (T := fun _ => False) hb) ⟨⟨id, id, id, id⟩, id, id, id, id⟩
theorem PoS.mono {c' : Nat} (h : PoS B o c w p d np N xd M od mb n F vo V) (hc : c ≤ c') (hb : c' ≤ 1000000) : PoS B o c' w p d np N xd M od mb n F vo V :=
  ⟨h.pool, h.low, h.dev, h.map, Nat.le_trans h.cap hc, h.look, h.ord, h.own, fun n f e => ⟨(h.fr n f e).1, (h.fr n f e).2.1, (h.fr n f e).2.2.1, Nat.le_trans (h.fr n f e).2.2.2 hc⟩, h.inj, h.ot, hb, h.big.2⟩
/-- The device was turned. -/
theorem PoS.devd {w' : World} (h : PoS B o c w p d np N xd M od mb n F vo V) (hw : Ty B devT w w') {xd' : P.Dv} (hd : DvIs B w' d np xd') : PoS B o c w' p d np N xd' M od mb n F vo V := by
  obtain ⟨k1, k2, k3, k4, k5, k6⟩ := h.keep hw
  exact ⟨k1 (by unfold devT; decide), h.low, hd, k3 (by unfold devT; decide), h.cap, h.look, k4 (by unfold devT; decide), h.own, k5 (by unfold devT; decide) (by unfold devT; decide), h.inj, k6, h.big⟩
/-- The order was turned: in its own block, or in a new one; then the pool's own block. -/
theorem PoS.used {w1 w2 : World} (h : PoS B o c w p d np N xd M od mb n F vo V) {o' : Nat} {vo' : Value} {od' : List Nat} (hw : Chg (fun k => vo.ownBlock = some k) w w1) (ht : tagA w1 o = tagA w o) (ho : OV w1 B 3 1 vo' od'.length (ivs (od'.map Int.ofNat))) (hown : ∀ k, vo'.ownBlock = some k → k = o')
    (ho' : o' = o ∨ (w.heap.size ≤ o' ∧ vo'.ownBlock = some o')) (h2 : w2 = w1.setCell ⟨p, 3, none⟩ vo') (hod : (∀ m ∈ od', m < np) ∧ od'.length ≤ 5000) :
    PoS B o' c w2 p d np N xd M od' mb n F vo' V ∧ TyX (fun k => k = o) B poT w w2 ∧ w.heap.size ≤ w2.heap.size := by
  have hty : ∀ k, vo.ownBlock = some k → tagA w k = some (some 3) ∧ B ≤ k := fun k hk => OV.tag h.ord k hk
  have t1 : Ty B (fun t => t = some 3) w w1 := ⟨hw.os, hw.tape, hw.output, hw.size, fun k hk => by
      by_cases e : vo.ownBlock = some k
      · rw [h.own k e]; exact ht
      · exact tagA_eq (hw.block k hk e), fun k hk hn => hw.block k hk (fun e => hn (hty k e).2 _ (hty k e).1 rfl)⟩
  obtain ⟨k1, k2, k3, k4, k5, k6⟩ := h.keep t1
  have q1 := k1 (by decide)
  have t2 : Ty B (fun t => t = some 69) w1 w2 := by
    rw [h2]
    exact (Ty.refl _ _ _).setCell _ _ (.inr ⟨h.low.1, _, tagA_cells q1, rfl⟩)
  have t12 : Ty B (fun t => t = some 3 ∨ t = some 69) w w2 := (t1.mono (Nat.le_refl _) (fun t h => .inl h)).trans (t2.mono (Nat.le_refl _) (fun t h => .inr h))
  obtain ⟨-, j2, j3, -, j5, j6⟩ := h.keep t12
  refine ⟨⟨?_, h.low, j2 ⟨by decide, by decide, by decide, by decide⟩, j3 (by decide), h.cap, h.look, ho.ty t2 (fun _ _ => .inr (by decide)), hown, j5 (by decide) (by decide), h.inj, ?_, h.big.1, h.big.2.1, hod.1, hod.2, h.big.2.2.2.2⟩, ?_, t12.size⟩
  · rw [h2, blk_setCell q1]
    rfl
  · rcases ho' with rfl | ⟨h5, h6⟩
    · exact j6
    · have := OV.tag ho o' h6
      exact ⟨.inl (by rw [t2.tag _ (tagA_lt this.1)]; exact this.1), this.2⟩
  · refine ⟨t12.os, t12.tape, t12.output, t12.size, t12.tag, fun k hk hx hs => ?_⟩
    have e1 := hw.block k hk (fun e => hx (h.own k e))
    by_cases e : k = p
    · subst e
      exact absurd (.inr (.inl rfl)) (hs h.low.1 _ (tagA_cells h.pool))
    · rw [h2, Below.heap_setCell _ _ _ _ e]
      exact e1
end Go.Proofs.YtocepcibcapfbaaGreat
