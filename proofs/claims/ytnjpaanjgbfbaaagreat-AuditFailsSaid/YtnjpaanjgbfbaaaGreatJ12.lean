/- Arguments that came in: a slice of bytes as a list. -/
import Derived.Test.YtnjpaanjgbfbaaaGreatJ09
import Derived.Test.YtnjpaanjgbfbaaaGreatJ11
import Derived.Test.YtnjpaanjgbfbaaaGreatRows
import Derived.Test.YtnjpaanjgbfbaaaGreatJ01
import Derived.ProofKit
import Derived.OpenShut
import Derived.ShutString
import Derived.ChangeOld
import Derived.Below
import Derived.Lib.SmallJoins
import Derived.Deep.Slices
namespace Go.Proofs.YtnjpaanjgbfbaaaGreat
set_option linter.unusedVariables false
set_option linter.unusedSimpArgs false
open Go.ChangeShapes Go.WideShapes Go.ChangeAt Go.RowKit

theorem own : ownKnob Tryz.prog.godebug = none := by kernel_rfl
theorem laidOut : laidOutB Tryz.prog = true := by kernel_rfl

theorem u8_of_wf {n : Int} (h : (Lit.int .u8 n).wf = true) : ((UInt8.ofNat n.toNat).toNat : Int) = n := by
  have hb := bounds_u8 h
  simp
  omega

theorem open_bytes {H : Type} {enc : TypeId × Value → H} {W : World} {base : Nat} {hd : Bool} {a : Option Addr} {len cap : Nat} {d : DataW H} {p : List MemPlace}
    (h : DataW.Trod enc Tryz.prog W base (fun _ => true) hd 22 (.slice a len cap) d p) : ∃ l, Rd W a len l ∧ len ≤ cap := by
  obtain ⟨fuel, hf⟩ := h
  rcases open_ints Tryz.underlying22 Tryz.underlying5 (by kernel_rfl) hf with ⟨hcs, _⟩ | ⟨x, l, c, zs, hcs, _, hl, hm, hz, _, hcell, hwz⟩
  · simp [Value.cells] at hcs
    obtain ⟨rfl, rfl, rfl⟩ := hcs
    exact ⟨[], Rd.nil _ _, Nat.le_refl _⟩
  · simp [Value.cells] at hcs
    obtain ⟨rfl, rfl, rfl⟩ := hcs
    have hz' : zs.length = cap := by simpa using hz
    refine ⟨(zs.take len).map fun n => UInt8.ofNat n.toNat, ⟨by simp; omega, by omega, fun i hi => ⟨x, rfl, ?_⟩⟩, hl⟩
    simp only [List.length_map, List.length_take] at hi
    have hc := hcell i (by omega)
    rw [hc]
    have hw := hwz (zs.getD i 0) (by
      rw [List.getD_eq_getElem?_getD, List.getElem?_eq_getElem (by omega)]
      exact List.getElem_mem _)
    unfold bv
    have e : ((List.map (fun n => UInt8.ofNat n.toNat) (List.take len zs))[i]'(by simp; omega)) = UInt8.ofNat (zs.getD i 0).toNat := by
      simp [List.getD_eq_getElem?_getD, List.getElem?_eq_getElem (show i < zs.length by omega)]
    rw [e, u8_of_wf hw]
end Go.Proofs.YtnjpaanjgbfbaaaGreat
/- The walk of chapter 8: Leaf. -/
namespace Go.Proofs.YtnjpaanjgbfbaaaGreat
set_option linter.unusedVariables false
set_option linter.unusedSimpArgs false
open Go.RowKit

def RQ (w : World) (a : Option Addr) (n : Nat) (l : List P.Q) : Prop := RV w a n 4 (qCs l)
theorem qCs_length (l : List P.Q) : (qCs l).length = l.length * 4 := by
  induction l with
  | nil => rfl
  | cons x l ih => simp only [qCs, List.map_cons, List.flatten_cons, List.length_append, List.length_cons] at ih ⊢; rw [ih]; simp [qC]; omega
theorem qCs_at (l : List P.Q) (i f : Nat) (hi : i < l.length) (hf : f < 4) : (qCs l)[i * 4 + f]? = (qC l[i])[f]? := by
  induction l generalizing i with
  | nil => simp at hi
  | cons x l ih =>
    have e : qCs (x :: l) = qC x ++ qCs l := rfl
    rw [e]
    cases i with
    | zero => rw [List.getElem?_append_left (by simp [qC]; omega)]; simp
    | succ i =>
      rw [List.getElem?_append_right (by simp [qC]; omega)]
      have := ih i (by simpa using hi)
      have hl : (qC x).length = 4 := rfl
      rw [hl, show (i + 1) * 4 + f - 4 = i * 4 + f by omega, this]
      simp
theorem RQ.len {w : World} {a : Option Addr} {n : Nat} {l : List P.Q} (h : RQ w a n l) : l.length = n := by have := h.1; rw [qCs_length] at this; omega
theorem add_off (p : Addr) (m f : Nat) (hf : 0 < f) : p.add (m + f) = ⟨(p.add m).block, (p.add m).off + f, none⟩ := by
  unfold Addr.add
  rw [if_neg (by omega)]
  split
  · rename_i h; subst h; simp
  · simp; omega
theorem RQ.at {w : World} {a : Option Addr} {n : Nat} {l : List P.Q} (h : RQ w a n l) (i : Nat) (hi : i < l.length) :
    ∃ p, a = some p ∧ w.cell? (p.add (i * 4)) = some (.int .i64 l[i].a) ∧ w.cell? ⟨(p.add (i * 4)).block, (p.add (i * 4)).off + 1, none⟩ = some (.int .i64 l[i].b) ∧
      w.cell? ⟨(p.add (i * 4)).block, (p.add (i * 4)).off + 2, none⟩ = some (.int .i64 l[i].c) ∧ w.cell? ⟨(p.add (i * 4)).block, (p.add (i * 4)).off + 3, none⟩ = some (.int .i64 l[i].d) := by
  have hl := qCs_length l
  have hc : ∀ f, f < 4 → ∀ p, a = some p → w.cell? (p.add (i * 4 + f)) = (qC l[i])[f]? := by
    intro f hf p hp
    obtain ⟨q, e, hq⟩ := RV.at h (i * 4 + f) (by omega)
    rw [hp] at e; cases e
    rw [hq, ← qCs_at l i f hi hf, List.getElem?_eq_getElem (by omega)]
  obtain ⟨p, rfl, _⟩ := RV.at h (i * 4) (by omega)
  exact ⟨p, rfl, hc 0 (by omega) p rfl, by rw [← add_off _ _ 1 (by omega)]; exact hc 1 (by omega) p rfl, by rw [← add_off _ _ 2 (by omega)]; exact hc 2 (by omega) p rfl, by rw [← add_off _ _ 3 (by omega)]; exact hc 3 (by omega) p rfl⟩
theorem RQ.below {w w' : World} {a : Option Addr} {n : Nat} {l : List P.Q} (h : RQ w a n l) (hb : Below w.heap.size w w') : RQ w' a n l := RV.below h hb

end Go.Proofs.YtnjpaanjgbfbaaaGreat
/- The walks of chapter 8: what reads one cell. -/
namespace Go.Proofs.YtnjpaanjgbfbaaaGreat
set_option linter.unusedVariables false
set_option linter.unusedSimpArgs false
open Go.RowKit

theorem one1_fit (l : List UInt8) (at_ n : Nat) (h1 : 1 ≤ n) (h7 : n ≤ 7) (h : at_ + n ≤ l.length) : one1 l (at_ : Nat) (n : Nat) = (P.get l (at_ : Nat) (n : Nat)).1 := by
  unfold one1
  rw [P.get_fit l at_ n h1 h7 h]
  rfl
theorem numP (c : List UInt8) (hl : c.length = 12) : numTo [4, 2, 2, 2, 2] c 5 = [(P.decP c).a, (P.decP c).b, (P.decP c).c, (P.decP c).d, (P.get c 10 2).1] := by
  have e0 := one1_fit c 0 4 (by omega) (by omega) (by omega)
  have e1 := one1_fit c 4 2 (by omega) (by omega) (by omega)
  have e2 := one1_fit c 6 2 (by omega) (by omega) (by omega)
  have e3 := one1_fit c 8 2 (by omega) (by omega) (by omega)
  have e4 := one1_fit c 10 2 (by omega) (by omega) (by omega)
  show [one1 c 0 4, one1 c 4 2, one1 c 6 2, one1 c 8 2, one1 c 10 2] = _
  rw [show one1 c 0 4 = _ from e0, show one1 c 4 2 = _ from e1, show one1 c 6 2 = _ from e2, show one1 c 8 2 = _ from e3, show one1 c 10 2 = _ from e4]
  rfl
/-- A kid as the program reads it: its bytes may be -1. -/
def kidX (c : List UInt8) : P.Q := ⟨(P.decK c).a, (P.decK c).b, one1 c 8 8, (P.decK c).d⟩
theorem numK (c : List UInt8) (hl : c.length = 20) : numTo [4, 4, 8, 4] c 4 = [(kidX c).a, (kidX c).b, (kidX c).c, (kidX c).d] := by
  have e0 := one1_fit c 0 4 (by omega) (by omega) (by omega)
  have e1 := one1_fit c 4 4 (by omega) (by omega) (by omega)
  have e3 := one1_fit c 16 4 (by omega) (by omega) (by omega)
  show [one1 c 0 4, one1 c 4 4, one1 c 8 8, one1 c 16 4] = _
  rw [show one1 c 0 4 = _ from e0, show one1 c 4 4 = _ from e1, show one1 c 16 4 = _ from e3]
  rfl
theorem kidX_ok (c : List UInt8) : (kidX c).mayK = P.okK c ∧ (P.okK c = true → kidX c = P.decK c) := by
  rcases h : (P.get c 8 8).2 with _ | _
  · have h0 := P.get_unf c 8 8 h
    have e : one1 c 8 8 = -1 := by unfold one1; rw [h]; rfl
    have m1 : (kidX c).mayK = false := by
      rcases hm : (kidX c).mayK with _ | _
      · rfl
      · have := (kidX c).mayK_iff.1 hm
        have e2 : (kidX c).c = one1 c 8 8 := rfl
        omega
    have m2 : P.okK c = false := by
      rcases hm : P.okK c with _ | _
      · rfl
      · have := (P.decK c).mayK_iff.1 hm
        have e2 : (P.decK c).c = (P.get c 8 8).1 := rfl
        omega
    exact ⟨by rw [m1, m2], by rw [m2]; intro h; cases h⟩
  · have e : kidX c = P.decK c := by
      unfold kidX one1
      rw [h]
      rfl
    exact ⟨by rw [e]; rfl, fun _ => e⟩

theorem set4' {w w1 : World} {B : Nat} (h : Below B w w1) (u0 u1 u2 u3 : Value) :
    Below B w ((((w1.setCell ⟨B, 0, none⟩ u0).setCell ⟨B, 1, none⟩ u1).setCell ⟨B, 2, none⟩ u2).setCell ⟨B, 3, none⟩ u3) :=
  (((h.setCell (Nat.le_refl _) _).setCell (Nat.le_refl _) _).setCell (Nat.le_refl _) _).setCell (Nat.le_refl _) _
theorem chg4 {w w1 : World} {B : Nat} (h : Below w.heap.size w w1) (u0 u1 u2 u3 : Value) :
    Chg (fun k => k = B) w ((((w1.setCell ⟨B, 0, none⟩ u0).setCell ⟨B, 1, none⟩ u1).setCell ⟨B, 2, none⟩ u2).setCell ⟨B, 3, none⟩ u3) :=
  ((((Chg.of_below h (fun k => k = B)).setCell ⟨B, 0, none⟩ u0 (.inr rfl)).setCell ⟨B, 1, none⟩ u1 (.inr rfl)).setCell ⟨B, 2, none⟩ u2 (.inr rfl)).setCell ⟨B, 3, none⟩ u3 (.inr rfl)
theorem blk4 {w1 : World} {B : Nat} {a0 a1 a2 a3 : Value} {t : TypeId} {fr : Nat × Nat} (h : w1.heap[B]? = some (.cells #[a0, a1, a2, a3] t fr)) (u0 u1 u2 u3 : Value) :
    ((((w1.setCell ⟨B, 0, none⟩ u0).setCell ⟨B, 1, none⟩ u1).setCell ⟨B, 2, none⟩ u2).setCell ⟨B, 3, none⟩ u3).heap[B]? = some (.cells #[u0, u1, u2, u3] t fr) :=
  blk_setCell (blk_setCell (blk_setCell (blk_setCell h 0 u0) 1 u1) 2 u2) 3 u3
theorem deqz (x : Int) : decide (x = 0) = (x == 0) := by by_cases h : x = 0 <;> simp [h]
set_option maxRecDepth 100000 in
set_option maxHeartbeats 6400000 in
theorem rdP_f (a : Option Addr) (cap : Nat) (c : List UInt8) (w : World) (hr : Rd w a 12 c) (hmay : (P.decP c).mayP = false) :
    Calls Tryz.prog 102 #[.slice a 12 cap] w fun e w' => e = .returned (.tuple #[qV (P.decP c), .bool (P.okP c)]) ∧ Below w.heap.size w w' := by
  have hn := numP c hr.1
  have hok : P.okP c = ((P.decP c).mayP && decide ((P.get c 10 2).1 = 0)) := rfl
  have HM := Lib.hid (fun w => mayP_any (P.decP c) w)
  generalize (P.get c 10 2).1 = Z at *
  generalize P.decP c = Q at *
  obtain ⟨A, B, C, D⟩ := Q
  simp only at hn
  have HN := Lib.hid hn
  have HOK := Lib.hid hok
  have HR := Lib.hid hr
  unfold qV at HM ⊢
  simp only at HM ⊢
  clear hn hok hr
  go_enter Tryz.func102, Tryz.ntmps102
  go_wp2_with fail
  have hb0 : Below w.heap.size w ((w.alloc (.cells #[.int .i64 0, .int .i64 0, .int .i64 0, .int .i64 0] 59)).alloc (.cells #[.int .i64 4, .int .i64 2, .int .i64 2, .int .i64 2, .int .i64 2] 3)) := ((Below.refl _ w).alloc (Nat.le_refl _) _).alloc (by simp) _
  have hB0 : ((w.alloc (.cells #[.int .i64 0, .int .i64 0, .int .i64 0, .int .i64 0] 59)).alloc (.cells #[.int .i64 4, .int .i64 2, .int .i64 2, .int .i64 2, .int .i64 2] 3)).heap[w.heap.size]? = _ := alloc_old (alloc_new _ _ _ rfl) _
  have hri : RI ((w.alloc (.cells #[.int .i64 0, .int .i64 0, .int .i64 0, .int .i64 0] 59)).alloc (.cells #[.int .i64 4, .int .i64 2, .int .i64 2, .int .i64 2, .int .i64 2] 3)) (some ⟨w.heap.size + 1, 0, none⟩) 5 [4, 2, 2, 2, 2] := by
    have h := RI_lit (w.alloc (.cells #[.int .i64 0, .int .i64 0, .int .i64 0, .int .i64 0] 59)) 3 [4, 2, 2, 2, 2] (fr := (0, 0)) (by simp [maxLen])
    have e : (w.alloc (.cells #[.int .i64 0, .int .i64 0, .int .i64 0, .int .i64 0] 59)).heap.size = w.heap.size + 1 := by simp
    rw [e] at h
    exact h
  generalize ((w.alloc (.cells #[.int .i64 0, .int .i64 0, .int .i64 0, .int .i64 0] 59)).alloc (.cells #[.int .i64 4, .int .i64 2, .int .i64 2, .int .i64 2, .int .i64 2] 3)) = w0 at *
  have l0 : w.heap.size < w0.heap.size := lt_of_block hB0
  refine (numbers_any _ _ _ _ _ _ _ c _ hri (HR.out.below hb0) (by omega) (by simp)).mono ?_
  rintro e w1 ⟨v1, rfl, ho1, hb1⟩
  rw [HN.out] at ho1
  have hbb1 := below_then hb0 hb1 hb0.size
  obtain ⟨g, q, hv1, hg1, hg2, hrv, -⟩ := ho1.pos (by omega)
  subst hv1
  have hB1 := (hb1.block _ l0).trans hB0
  have k0 : w1.cell? ⟨g, 0, none⟩ = some (.int .i64 A) := by obtain ⟨p, e, h⟩ := RV.at hrv 0 (by simp [ivs]); cases e; exact h
  have k1 : w1.cell? ⟨g, 1, none⟩ = some (.int .i64 B) := by obtain ⟨p, e, h⟩ := RV.at hrv 1 (by simp [ivs]); cases e; exact h
  have k2 : w1.cell? ⟨g, 2, none⟩ = some (.int .i64 C) := by obtain ⟨p, e, h⟩ := RV.at hrv 2 (by simp [ivs]); cases e; exact h
  have k3 : w1.cell? ⟨g, 3, none⟩ = some (.int .i64 D) := by obtain ⟨p, e, h⟩ := RV.at hrv 3 (by simp [ivs]); cases e; exact h
  have k4 : w1.cell? ⟨g, 4, none⟩ = some (.int .i64 Z) := by obtain ⟨p, e, h⟩ := RV.at hrv 4 (by simp [ivs]); cases e; exact h
  have HB1 := Lib.hid hB1
  have hB : Below w1.heap.size w1 w1.drew := ⟨rfl, rfl, rfl, Nat.le_refl _, fun _ _ => rfl⟩
  have kp : ∀ w', Below w1.heap.size w1 w' → w'.cell? ⟨g, 0, none⟩ = some (.int .i64 A) ∧ w'.cell? ⟨g, 1, none⟩ = some (.int .i64 B) ∧ w'.cell? ⟨g, 2, none⟩ = some (.int .i64 C) ∧ w'.cell? ⟨g, 3, none⟩ = some (.int .i64 D) :=
    fun w' h => ⟨(h.cell (p := ⟨g, 0, none⟩) hg2).trans k0, (h.cell (p := ⟨g, 1, none⟩) hg2).trans k1, (h.cell (p := ⟨g, 2, none⟩) hg2).trans k2, (h.cell (p := ⟨g, 3, none⟩) hg2).trans k3⟩
  have KP := Lib.hid kp
  clear ho1 hrv hB0 hri hB1 kp
  go_wp2
  go_region_held3 (fun w' => w'.cell? ⟨g, 0, none⟩ = some (.int .i64 A) ∧ w'.cell? ⟨g, 1, none⟩ = some (.int .i64 B) ∧ w'.cell? ⟨g, 2, none⟩ = some (.int .i64 C) ∧ w'.cell? ⟨g, 3, none⟩ = some (.int .i64 D))
    (first
      | exact KP.out _ hB
      | exact KP.out _ (hB.alloc hB.size _))
    (fail)
  go_wp2
  have hb2 : Below w1.heap.size w1 (w1.alloc (.cells #[.int .i64 A, .int .i64 B, .int .i64 C, .int .i64 D] 59)).drew := ⟨rfl, rfl, rfl, by simp, fun k hk => Below.heap_alloc _ _ _ hk⟩
  have hB2 : (w1.alloc (.cells #[.int .i64 A, .int .i64 B, .int .i64 C, .int .i64 D] 59)).drew.heap[w1.heap.size]? = _ := alloc_new w1 (.cells #[.int .i64 A, .int .i64 B, .int .i64 C, .int .i64 D] 59) _ rfl
  generalize (w1.alloc (.cells #[.int .i64 A, .int .i64 B, .int .i64 C, .int .i64 D] 59)).drew = w2 at *
  have l2 := lt_of_block hB2
  have hbb2 := below_then hbb1 hb2 hbb1.size
  have k4' := (hb2.cell (p := ⟨g, 4, none⟩) hg2).trans k4
  have hg3 : g < w2.heap.size := by have := hb2.size; omega
  have hBz := (hb2.block _ (lt_of_block HB1.out)).trans HB1.out
  have hbD : Below w2.heap.size w2 w2.drew := ⟨rfl, rfl, rfl, Nat.le_refl _, fun _ _ => rfl⟩
  have hne : w1.heap.size ≠ w.heap.size := by have := lt_of_block HB1.out; omega
  have hne2 : g ≠ w.heap.size := by omega
  have hS : ∀ w', Chg (fun k => k = w.heap.size) w2 w' → (∀ i, w'.cell? ⟨w1.heap.size, i, none⟩ = (#[.int .i64 A, .int .i64 B, .int .i64 C, .int .i64 D] : Array Value)[i]?) ∧ w'.cell? ⟨g, 4, none⟩ = some (.int .i64 Z) :=
    fun w' h => ⟨cell_blk ((h.block _ l2 hne).trans hB2), (World.cell?_of_block (a := ⟨g, 4, none⟩) (h.block _ hg3 hne2)).trans k4'⟩
  have HS := Lib.hid hS
  have HBZ := Lib.hid hBz
  clear k0 k1 k2 k3 k4 k4' hB2 hBz hS
  have hv : P.okP c = (P.Q.mayP ⟨A, B, C, D⟩ && (Z == 0)) := by rw [HOK.out, deqz]
  rw [hmay] at HM
  rw [hmay, Bool.false_and] at hv
  have HV := Lib.hid hv
  clear hv
  have s2 := HS.out _ (Chg.of_below hbD _)
  obtain ⟨s2a, s2b⟩ := s2
  have hcz : ∀ w', Below w2.heap.size w2 w' → ∀ i, w'.cell? ⟨w.heap.size, i, none⟩ = (#[.int .i64 0, .int .i64 0, .int .i64 0, .int .i64 0] : Array Value)[i]? := fun w' h => cell_blk ((h.block _ (lt_of_block HBZ.out)).trans HBZ.out)
  have hfz : ∀ w', Below w2.heap.size w2 w' → ∀ i, w'.frozen? ⟨w.heap.size, i, none⟩ = false := fun w' h => free_blk ((h.block _ (lt_of_block HBZ.out)).trans HBZ.out)
  have HCZ := Lib.hid hcz
  have HFZ := Lib.hid hfz
  have ZZ := Lib.hid s2a
  clear hcz hfz s2b
  first
    | (go_region_with (go_at_call 104; refine (HM.out _).mono ?_; rintro e wp ⟨rfl, hbp⟩; have hbP := below_then hbD hbp hbD.size; have cz := HCZ.out _ hbP; have fz := HFZ.out _ hbP; have sp := (HS.out _ (Chg.of_below hbP _)).1))
    | fail "with"
  all_goals
    have hbb9 := below_then hbb2 hbP hbb2.size
    have hBzP := (hbP.block _ (lt_of_block HBZ.out)).trans HBZ.out
    have HBP := Lib.hid hBzP
    clear hBzP hbp hbP
    go_wp2
    generalize hW2 : World.setCell _ ⟨w.heap.size, 3, none⟩ _ = W2
    have hb9 : Below w.heap.size w W2 := by rw [← hW2]; exact set4' hbb9 _ _ _ _
    have cl2 := cell_blk (show W2.heap[w.heap.size]? = _ by rw [← hW2]; exact blk4 HBP.out _ _ _ _)
    exact bodyPost_ret (v := .tuple #[.agg #[.int .i64 A, .int .i64 B, .int .i64 C, .int .i64 D], .bool _]) (by first | (simp [results, Tryz.results102, go_sem, cl2]; done) | (simp [results, Tryz.results102, go_sem, cl2]; rfl)) rfl ⟨by first | (rw [HV.out]; done) | (rw [HV.out]; rfl), hb9⟩
set_option maxRecDepth 100000 in
set_option maxHeartbeats 6400000 in
theorem rdP_tf (a : Option Addr) (cap : Nat) (c : List UInt8) (w : World) (hr : Rd w a 12 c) (hmay : (P.decP c).mayP = true) (hz : ((P.get c 10 2).1 == 0) = false) :
    Calls Tryz.prog 102 #[.slice a 12 cap] w fun e w' => e = .returned (.tuple #[qV (P.decP c), .bool (P.okP c)]) ∧ Below w.heap.size w w' := by
  have hn := numP c hr.1
  have hok : P.okP c = ((P.decP c).mayP && decide ((P.get c 10 2).1 = 0)) := rfl
  have HM := Lib.hid (fun w => mayP_any (P.decP c) w)
  generalize (P.get c 10 2).1 = Z at *
  generalize P.decP c = Q at *
  obtain ⟨A, B, C, D⟩ := Q
  simp only at hn
  have HN := Lib.hid hn
  have HOK := Lib.hid hok
  have HR := Lib.hid hr
  unfold qV at HM ⊢
  simp only at HM ⊢
  clear hn hok hr
  go_enter Tryz.func102, Tryz.ntmps102
  go_wp2_with fail
  have hb0 : Below w.heap.size w ((w.alloc (.cells #[.int .i64 0, .int .i64 0, .int .i64 0, .int .i64 0] 59)).alloc (.cells #[.int .i64 4, .int .i64 2, .int .i64 2, .int .i64 2, .int .i64 2] 3)) := ((Below.refl _ w).alloc (Nat.le_refl _) _).alloc (by simp) _
  have hB0 : ((w.alloc (.cells #[.int .i64 0, .int .i64 0, .int .i64 0, .int .i64 0] 59)).alloc (.cells #[.int .i64 4, .int .i64 2, .int .i64 2, .int .i64 2, .int .i64 2] 3)).heap[w.heap.size]? = _ := alloc_old (alloc_new _ _ _ rfl) _
  have hri : RI ((w.alloc (.cells #[.int .i64 0, .int .i64 0, .int .i64 0, .int .i64 0] 59)).alloc (.cells #[.int .i64 4, .int .i64 2, .int .i64 2, .int .i64 2, .int .i64 2] 3)) (some ⟨w.heap.size + 1, 0, none⟩) 5 [4, 2, 2, 2, 2] := by
    have h := RI_lit (w.alloc (.cells #[.int .i64 0, .int .i64 0, .int .i64 0, .int .i64 0] 59)) 3 [4, 2, 2, 2, 2] (fr := (0, 0)) (by simp [maxLen])
    have e : (w.alloc (.cells #[.int .i64 0, .int .i64 0, .int .i64 0, .int .i64 0] 59)).heap.size = w.heap.size + 1 := by simp
    rw [e] at h
    exact h
  generalize ((w.alloc (.cells #[.int .i64 0, .int .i64 0, .int .i64 0, .int .i64 0] 59)).alloc (.cells #[.int .i64 4, .int .i64 2, .int .i64 2, .int .i64 2, .int .i64 2] 3)) = w0 at *
  have l0 : w.heap.size < w0.heap.size := lt_of_block hB0
  refine (numbers_any _ _ _ _ _ _ _ c _ hri (HR.out.below hb0) (by omega) (by simp)).mono ?_
  rintro e w1 ⟨v1, rfl, ho1, hb1⟩
  rw [HN.out] at ho1
  have hbb1 := below_then hb0 hb1 hb0.size
  obtain ⟨g, q, hv1, hg1, hg2, hrv, -⟩ := ho1.pos (by omega)
  subst hv1
  have hB1 := (hb1.block _ l0).trans hB0
  have k0 : w1.cell? ⟨g, 0, none⟩ = some (.int .i64 A) := by obtain ⟨p, e, h⟩ := RV.at hrv 0 (by simp [ivs]); cases e; exact h
  have k1 : w1.cell? ⟨g, 1, none⟩ = some (.int .i64 B) := by obtain ⟨p, e, h⟩ := RV.at hrv 1 (by simp [ivs]); cases e; exact h
  have k2 : w1.cell? ⟨g, 2, none⟩ = some (.int .i64 C) := by obtain ⟨p, e, h⟩ := RV.at hrv 2 (by simp [ivs]); cases e; exact h
  have k3 : w1.cell? ⟨g, 3, none⟩ = some (.int .i64 D) := by obtain ⟨p, e, h⟩ := RV.at hrv 3 (by simp [ivs]); cases e; exact h
  have k4 : w1.cell? ⟨g, 4, none⟩ = some (.int .i64 Z) := by obtain ⟨p, e, h⟩ := RV.at hrv 4 (by simp [ivs]); cases e; exact h
  have HB1 := Lib.hid hB1
  have hB : Below w1.heap.size w1 w1.drew := ⟨rfl, rfl, rfl, Nat.le_refl _, fun _ _ => rfl⟩
  have kp : ∀ w', Below w1.heap.size w1 w' → w'.cell? ⟨g, 0, none⟩ = some (.int .i64 A) ∧ w'.cell? ⟨g, 1, none⟩ = some (.int .i64 B) ∧ w'.cell? ⟨g, 2, none⟩ = some (.int .i64 C) ∧ w'.cell? ⟨g, 3, none⟩ = some (.int .i64 D) :=
    fun w' h => ⟨(h.cell (p := ⟨g, 0, none⟩) hg2).trans k0, (h.cell (p := ⟨g, 1, none⟩) hg2).trans k1, (h.cell (p := ⟨g, 2, none⟩) hg2).trans k2, (h.cell (p := ⟨g, 3, none⟩) hg2).trans k3⟩
  have KP := Lib.hid kp
  clear ho1 hrv hB0 hri hB1 kp
  go_wp2
  go_region_held3 (fun w' => w'.cell? ⟨g, 0, none⟩ = some (.int .i64 A) ∧ w'.cell? ⟨g, 1, none⟩ = some (.int .i64 B) ∧ w'.cell? ⟨g, 2, none⟩ = some (.int .i64 C) ∧ w'.cell? ⟨g, 3, none⟩ = some (.int .i64 D))
    (first
      | exact KP.out _ hB
      | exact KP.out _ (hB.alloc hB.size _))
    (fail)
  go_wp2
  have hb2 : Below w1.heap.size w1 (w1.alloc (.cells #[.int .i64 A, .int .i64 B, .int .i64 C, .int .i64 D] 59)).drew := ⟨rfl, rfl, rfl, by simp, fun k hk => Below.heap_alloc _ _ _ hk⟩
  have hB2 : (w1.alloc (.cells #[.int .i64 A, .int .i64 B, .int .i64 C, .int .i64 D] 59)).drew.heap[w1.heap.size]? = _ := alloc_new w1 (.cells #[.int .i64 A, .int .i64 B, .int .i64 C, .int .i64 D] 59) _ rfl
  generalize (w1.alloc (.cells #[.int .i64 A, .int .i64 B, .int .i64 C, .int .i64 D] 59)).drew = w2 at *
  have l2 := lt_of_block hB2
  have hbb2 := below_then hbb1 hb2 hbb1.size
  have k4' := (hb2.cell (p := ⟨g, 4, none⟩) hg2).trans k4
  have hg3 : g < w2.heap.size := by have := hb2.size; omega
  have hBz := (hb2.block _ (lt_of_block HB1.out)).trans HB1.out
  have hbD : Below w2.heap.size w2 w2.drew := ⟨rfl, rfl, rfl, Nat.le_refl _, fun _ _ => rfl⟩
  have hne : w1.heap.size ≠ w.heap.size := by have := lt_of_block HB1.out; omega
  have hne2 : g ≠ w.heap.size := by omega
  have hS : ∀ w', Chg (fun k => k = w.heap.size) w2 w' → (∀ i, w'.cell? ⟨w1.heap.size, i, none⟩ = (#[.int .i64 A, .int .i64 B, .int .i64 C, .int .i64 D] : Array Value)[i]?) ∧ w'.cell? ⟨g, 4, none⟩ = some (.int .i64 Z) :=
    fun w' h => ⟨cell_blk ((h.block _ l2 hne).trans hB2), (World.cell?_of_block (a := ⟨g, 4, none⟩) (h.block _ hg3 hne2)).trans k4'⟩
  have HS := Lib.hid hS
  have HBZ := Lib.hid hBz
  clear k0 k1 k2 k3 k4 k4' hB2 hBz hS
  have hv : P.okP c = (P.Q.mayP ⟨A, B, C, D⟩ && (Z == 0)) := by rw [HOK.out, deqz]
  rw [hmay] at HM
  rw [hmay, hz] at hv
  have HV := Lib.hid hv
  clear hv
  first
    | (go_region_held3 (fun w' => (∀ i, w'.cell? ⟨w1.heap.size, i, none⟩ = (#[.int .i64 A, .int .i64 B, .int .i64 C, .int .i64 D] : Array Value)[i]?) ∧ w'.cell? ⟨g, 4, none⟩ = some (.int .i64 Z))
        (first
          | exact HS.out _ (Chg.of_below hbD _)
          | exact HS.out _ (Chg.of_below hbP _)
          | exact HS.out _ (chg4 hbP _ _ _ _))
        (first
          | (go_at_call 104; refine (HM.out _).mono ?_; rintro e wp ⟨rfl, hbp⟩; have hbP := below_then hbD hbp hbD.size; have cz := cell_blk ((hbP.block _ (lt_of_block HBZ.out)).trans HBZ.out); have fz := free_blk ((hbP.block _ (lt_of_block HBZ.out)).trans HBZ.out))))
    | fail "held"
  all_goals
    have hbb9 := below_then hbb2 hbP hbb2.size
    have hBzP := (hbP.block _ (lt_of_block HBZ.out)).trans HBZ.out
    have HBP := Lib.hid hBzP
    clear hBzP hbp hbP
    go_wp2
    generalize hW2 : World.setCell _ ⟨w.heap.size, 3, none⟩ _ = W2
    have hb9 : Below w.heap.size w W2 := by rw [← hW2]; exact set4' hbb9 _ _ _ _
    have cl2 := cell_blk (show W2.heap[w.heap.size]? = _ by rw [← hW2]; exact blk4 HBP.out _ _ _ _)
    exact bodyPost_ret (v := .tuple #[.agg #[.int .i64 A, .int .i64 B, .int .i64 C, .int .i64 D], .bool _]) (by first | (simp [results, Tryz.results102, go_sem, cl2]; done) | (simp [results, Tryz.results102, go_sem, cl2]; rfl)) rfl ⟨by first | (rw [HV.out]; done) | (rw [HV.out]; rfl), hb9⟩
set_option maxRecDepth 100000 in
set_option maxHeartbeats 6400000 in
theorem rdP_tt (a : Option Addr) (cap : Nat) (c : List UInt8) (w : World) (hr : Rd w a 12 c) (hmay : (P.decP c).mayP = true) (hz : ((P.get c 10 2).1 == 0) = true) :
    Calls Tryz.prog 102 #[.slice a 12 cap] w fun e w' => e = .returned (.tuple #[qV (P.decP c), .bool (P.okP c)]) ∧ Below w.heap.size w w' := by
  have hn := numP c hr.1
  have hok : P.okP c = ((P.decP c).mayP && decide ((P.get c 10 2).1 = 0)) := rfl
  have HM := Lib.hid (fun w => mayP_any (P.decP c) w)
  generalize (P.get c 10 2).1 = Z at *
  generalize P.decP c = Q at *
  obtain ⟨A, B, C, D⟩ := Q
  simp only at hn
  have HN := Lib.hid hn
  have HOK := Lib.hid hok
  have HR := Lib.hid hr
  unfold qV at HM ⊢
  simp only at HM ⊢
  clear hn hok hr
  go_enter Tryz.func102, Tryz.ntmps102
  go_wp2_with fail
  have hb0 : Below w.heap.size w ((w.alloc (.cells #[.int .i64 0, .int .i64 0, .int .i64 0, .int .i64 0] 59)).alloc (.cells #[.int .i64 4, .int .i64 2, .int .i64 2, .int .i64 2, .int .i64 2] 3)) := ((Below.refl _ w).alloc (Nat.le_refl _) _).alloc (by simp) _
  have hB0 : ((w.alloc (.cells #[.int .i64 0, .int .i64 0, .int .i64 0, .int .i64 0] 59)).alloc (.cells #[.int .i64 4, .int .i64 2, .int .i64 2, .int .i64 2, .int .i64 2] 3)).heap[w.heap.size]? = _ := alloc_old (alloc_new _ _ _ rfl) _
  have hri : RI ((w.alloc (.cells #[.int .i64 0, .int .i64 0, .int .i64 0, .int .i64 0] 59)).alloc (.cells #[.int .i64 4, .int .i64 2, .int .i64 2, .int .i64 2, .int .i64 2] 3)) (some ⟨w.heap.size + 1, 0, none⟩) 5 [4, 2, 2, 2, 2] := by
    have h := RI_lit (w.alloc (.cells #[.int .i64 0, .int .i64 0, .int .i64 0, .int .i64 0] 59)) 3 [4, 2, 2, 2, 2] (fr := (0, 0)) (by simp [maxLen])
    have e : (w.alloc (.cells #[.int .i64 0, .int .i64 0, .int .i64 0, .int .i64 0] 59)).heap.size = w.heap.size + 1 := by simp
    rw [e] at h
    exact h
  generalize ((w.alloc (.cells #[.int .i64 0, .int .i64 0, .int .i64 0, .int .i64 0] 59)).alloc (.cells #[.int .i64 4, .int .i64 2, .int .i64 2, .int .i64 2, .int .i64 2] 3)) = w0 at *
  have l0 : w.heap.size < w0.heap.size := lt_of_block hB0
  refine (numbers_any _ _ _ _ _ _ _ c _ hri (HR.out.below hb0) (by omega) (by simp)).mono ?_
  rintro e w1 ⟨v1, rfl, ho1, hb1⟩
  rw [HN.out] at ho1
  have hbb1 := below_then hb0 hb1 hb0.size
  obtain ⟨g, q, hv1, hg1, hg2, hrv, -⟩ := ho1.pos (by omega)
  subst hv1
  have hB1 := (hb1.block _ l0).trans hB0
  have k0 : w1.cell? ⟨g, 0, none⟩ = some (.int .i64 A) := by obtain ⟨p, e, h⟩ := RV.at hrv 0 (by simp [ivs]); cases e; exact h
  have k1 : w1.cell? ⟨g, 1, none⟩ = some (.int .i64 B) := by obtain ⟨p, e, h⟩ := RV.at hrv 1 (by simp [ivs]); cases e; exact h
  have k2 : w1.cell? ⟨g, 2, none⟩ = some (.int .i64 C) := by obtain ⟨p, e, h⟩ := RV.at hrv 2 (by simp [ivs]); cases e; exact h
  have k3 : w1.cell? ⟨g, 3, none⟩ = some (.int .i64 D) := by obtain ⟨p, e, h⟩ := RV.at hrv 3 (by simp [ivs]); cases e; exact h
  have k4 : w1.cell? ⟨g, 4, none⟩ = some (.int .i64 Z) := by obtain ⟨p, e, h⟩ := RV.at hrv 4 (by simp [ivs]); cases e; exact h
  have HB1 := Lib.hid hB1
  have hB : Below w1.heap.size w1 w1.drew := ⟨rfl, rfl, rfl, Nat.le_refl _, fun _ _ => rfl⟩
  have kp : ∀ w', Below w1.heap.size w1 w' → w'.cell? ⟨g, 0, none⟩ = some (.int .i64 A) ∧ w'.cell? ⟨g, 1, none⟩ = some (.int .i64 B) ∧ w'.cell? ⟨g, 2, none⟩ = some (.int .i64 C) ∧ w'.cell? ⟨g, 3, none⟩ = some (.int .i64 D) :=
    fun w' h => ⟨(h.cell (p := ⟨g, 0, none⟩) hg2).trans k0, (h.cell (p := ⟨g, 1, none⟩) hg2).trans k1, (h.cell (p := ⟨g, 2, none⟩) hg2).trans k2, (h.cell (p := ⟨g, 3, none⟩) hg2).trans k3⟩
  have KP := Lib.hid kp
  clear ho1 hrv hB0 hri hB1 kp
  go_wp2
  go_region_held3 (fun w' => w'.cell? ⟨g, 0, none⟩ = some (.int .i64 A) ∧ w'.cell? ⟨g, 1, none⟩ = some (.int .i64 B) ∧ w'.cell? ⟨g, 2, none⟩ = some (.int .i64 C) ∧ w'.cell? ⟨g, 3, none⟩ = some (.int .i64 D))
    (first
      | exact KP.out _ hB
      | exact KP.out _ (hB.alloc hB.size _))
    (fail)
  go_wp2
  have hb2 : Below w1.heap.size w1 (w1.alloc (.cells #[.int .i64 A, .int .i64 B, .int .i64 C, .int .i64 D] 59)).drew := ⟨rfl, rfl, rfl, by simp, fun k hk => Below.heap_alloc _ _ _ hk⟩
  have hB2 : (w1.alloc (.cells #[.int .i64 A, .int .i64 B, .int .i64 C, .int .i64 D] 59)).drew.heap[w1.heap.size]? = _ := alloc_new w1 (.cells #[.int .i64 A, .int .i64 B, .int .i64 C, .int .i64 D] 59) _ rfl
  generalize (w1.alloc (.cells #[.int .i64 A, .int .i64 B, .int .i64 C, .int .i64 D] 59)).drew = w2 at *
  have l2 := lt_of_block hB2
  have hbb2 := below_then hbb1 hb2 hbb1.size
  have k4' := (hb2.cell (p := ⟨g, 4, none⟩) hg2).trans k4
  have hg3 : g < w2.heap.size := by have := hb2.size; omega
  have hBz := (hb2.block _ (lt_of_block HB1.out)).trans HB1.out
  have hbD : Below w2.heap.size w2 w2.drew := ⟨rfl, rfl, rfl, Nat.le_refl _, fun _ _ => rfl⟩
  have hne : w1.heap.size ≠ w.heap.size := by have := lt_of_block HB1.out; omega
  have hne2 : g ≠ w.heap.size := by omega
  have hS : ∀ w', Chg (fun k => k = w.heap.size) w2 w' → (∀ i, w'.cell? ⟨w1.heap.size, i, none⟩ = (#[.int .i64 A, .int .i64 B, .int .i64 C, .int .i64 D] : Array Value)[i]?) ∧ w'.cell? ⟨g, 4, none⟩ = some (.int .i64 Z) :=
    fun w' h => ⟨cell_blk ((h.block _ l2 hne).trans hB2), (World.cell?_of_block (a := ⟨g, 4, none⟩) (h.block _ hg3 hne2)).trans k4'⟩
  have HS := Lib.hid hS
  have HBZ := Lib.hid hBz
  clear k0 k1 k2 k3 k4 k4' hB2 hBz hS
  have hv : P.okP c = (P.Q.mayP ⟨A, B, C, D⟩ && (Z == 0)) := by rw [HOK.out, deqz]
  rw [hmay] at HM
  rw [hmay, hz] at hv
  have HV := Lib.hid hv
  clear hv
  first
    | (go_region_held3 (fun w' => (∀ i, w'.cell? ⟨w1.heap.size, i, none⟩ = (#[.int .i64 A, .int .i64 B, .int .i64 C, .int .i64 D] : Array Value)[i]?) ∧ w'.cell? ⟨g, 4, none⟩ = some (.int .i64 Z))
        (first
          | exact HS.out _ (Chg.of_below hbD _)
          | exact HS.out _ (Chg.of_below hbP _)
          | exact HS.out _ (chg4 hbP _ _ _ _))
        (first
          | (go_at_call 104; refine (HM.out _).mono ?_; rintro e wp ⟨rfl, hbp⟩; have hbP := below_then hbD hbp hbD.size; have cz := cell_blk ((hbP.block _ (lt_of_block HBZ.out)).trans HBZ.out); have fz := free_blk ((hbP.block _ (lt_of_block HBZ.out)).trans HBZ.out))))
    | fail "held"
  all_goals
    have hbb9 := below_then hbb2 hbP hbb2.size
    have hBzP := (hbP.block _ (lt_of_block HBZ.out)).trans HBZ.out
    have HBP := Lib.hid hBzP
    clear hBzP hbp hbP
    go_wp2
    generalize hW2 : World.setCell _ ⟨w.heap.size, 3, none⟩ _ = W2
    have hb9 : Below w.heap.size w W2 := by rw [← hW2]; exact set4' hbb9 _ _ _ _
    have cl2 := cell_blk (show W2.heap[w.heap.size]? = _ by rw [← hW2]; exact blk4 HBP.out _ _ _ _)
    exact bodyPost_ret (v := .tuple #[.agg #[.int .i64 A, .int .i64 B, .int .i64 C, .int .i64 D], .bool _]) (by first | (simp [results, Tryz.results102, go_sem, cl2]; done) | (simp [results, Tryz.results102, go_sem, cl2]; rfl)) rfl ⟨by first | (rw [HV.out]; done) | (rw [HV.out]; rfl), hb9⟩
set_option maxRecDepth 100000 in
set_option maxHeartbeats 1600000 in
theorem rdP_any (a : Option Addr) (cap : Nat) (c : List UInt8) (w : World) (hr : Rd w a 12 c) :
    Calls Tryz.prog 102 #[.slice a 12 cap] w fun e w' => e = .returned (.tuple #[qV (P.decP c), .bool (P.okP c)]) ∧ Below w.heap.size w w' := by
  rcases hmay : (P.decP c).mayP with _ | _
  · exact rdP_f a cap c w hr hmay
  rcases hz : ((P.get c 10 2).1 == 0) with _ | _
  · exact rdP_tf a cap c w hr hmay hz
  · exact rdP_tt a cap c w hr hmay hz
end Go.Proofs.YtnjpaanjgbfbaaaGreat
/- The walk of chapter 8: what reads one kid. -/
namespace Go.Proofs.YtnjpaanjgbfbaaaGreat
set_option linter.unusedVariables false
set_option linter.unusedSimpArgs false
open Go.RowKit

set_option maxRecDepth 100000 in
set_option maxHeartbeats 6400000 in
theorem rdK_any (a : Option Addr) (cap : Nat) (c : List UInt8) (w : World) (hr : Rd w a 20 c) :
    Calls Tryz.prog 107 #[.slice a 20 cap] w fun e w' => e = .returned (.tuple #[qV (kidX c), .bool (P.okK c)]) ∧ Below w.heap.size w w' := by
  have hn := numK c hr.1
  have hok : P.okK c = (kidX c).mayK := (kidX_ok c).1.symm
  have HM := Lib.hid (fun w => mayK_any (kidX c) w)
  generalize kidX c = Q at *
  obtain ⟨A, B, C, D⟩ := Q
  simp only at hn
  have HN := Lib.hid hn
  have HOK := Lib.hid hok
  have HR := Lib.hid hr
  unfold qV at HM ⊢
  simp only at HM ⊢
  clear hn hok hr
  go_enter Tryz.func107, Tryz.ntmps107
  go_wp2_with fail
  have hb0 : Below w.heap.size w ((w.alloc (.cells #[.int .i64 0, .int .i64 0, .int .i64 0, .int .i64 0] 92)).alloc (.cells #[.int .i64 4, .int .i64 4, .int .i64 8, .int .i64 4] 3)) := ((Below.refl _ w).alloc (Nat.le_refl _) _).alloc (by simp) _
  have hB0 : ((w.alloc (.cells #[.int .i64 0, .int .i64 0, .int .i64 0, .int .i64 0] 92)).alloc (.cells #[.int .i64 4, .int .i64 4, .int .i64 8, .int .i64 4] 3)).heap[w.heap.size]? = _ := alloc_old (alloc_new _ _ _ rfl) _
  have hri : RI ((w.alloc (.cells #[.int .i64 0, .int .i64 0, .int .i64 0, .int .i64 0] 92)).alloc (.cells #[.int .i64 4, .int .i64 4, .int .i64 8, .int .i64 4] 3)) (some ⟨w.heap.size + 1, 0, none⟩) 4 [4, 4, 8, 4] := by
    have h := RI_lit (w.alloc (.cells #[.int .i64 0, .int .i64 0, .int .i64 0, .int .i64 0] 92)) 3 [4, 4, 8, 4] (fr := (0, 0)) (by simp [maxLen])
    have e : (w.alloc (.cells #[.int .i64 0, .int .i64 0, .int .i64 0, .int .i64 0] 92)).heap.size = w.heap.size + 1 := by simp
    rw [e] at h
    exact h
  generalize ((w.alloc (.cells #[.int .i64 0, .int .i64 0, .int .i64 0, .int .i64 0] 92)).alloc (.cells #[.int .i64 4, .int .i64 4, .int .i64 8, .int .i64 4] 3)) = w0 at *
  have l0 : w.heap.size < w0.heap.size := lt_of_block hB0
  refine (numbers_any _ _ _ _ _ _ _ c _ hri (HR.out.below hb0) (by omega) (by simp)).mono ?_
  rintro e w1 ⟨v1, rfl, ho1, hb1⟩
  rw [HN.out] at ho1
  have hbb1 := below_then hb0 hb1 hb0.size
  obtain ⟨g, q, hv1, hg1, hg2, hrv, -⟩ := ho1.pos (by omega)
  subst hv1
  have hB1 := (hb1.block _ l0).trans hB0
  have k0 : w1.cell? ⟨g, 0, none⟩ = some (.int .i64 A) := by obtain ⟨p, e, h⟩ := RV.at hrv 0 (by simp [ivs]); cases e; exact h
  have k1 : w1.cell? ⟨g, 1, none⟩ = some (.int .i64 B) := by obtain ⟨p, e, h⟩ := RV.at hrv 1 (by simp [ivs]); cases e; exact h
  have k2 : w1.cell? ⟨g, 2, none⟩ = some (.int .i64 C) := by obtain ⟨p, e, h⟩ := RV.at hrv 2 (by simp [ivs]); cases e; exact h
  have k3 : w1.cell? ⟨g, 3, none⟩ = some (.int .i64 D) := by obtain ⟨p, e, h⟩ := RV.at hrv 3 (by simp [ivs]); cases e; exact h
  have HB1 := Lib.hid hB1
  have hB : Below w1.heap.size w1 w1.drew := ⟨rfl, rfl, rfl, Nat.le_refl _, fun _ _ => rfl⟩
  have kp : ∀ w', Below w1.heap.size w1 w' → w'.cell? ⟨g, 0, none⟩ = some (.int .i64 A) ∧ w'.cell? ⟨g, 1, none⟩ = some (.int .i64 B) ∧ w'.cell? ⟨g, 2, none⟩ = some (.int .i64 C) ∧ w'.cell? ⟨g, 3, none⟩ = some (.int .i64 D) :=
    fun w' h => ⟨(h.cell (p := ⟨g, 0, none⟩) hg2).trans k0, (h.cell (p := ⟨g, 1, none⟩) hg2).trans k1, (h.cell (p := ⟨g, 2, none⟩) hg2).trans k2, (h.cell (p := ⟨g, 3, none⟩) hg2).trans k3⟩
  have KP := Lib.hid kp
  clear ho1 hrv hB0 hri hB1 kp
  go_wp2
  go_region_held3 (fun w' => w'.cell? ⟨g, 0, none⟩ = some (.int .i64 A) ∧ w'.cell? ⟨g, 1, none⟩ = some (.int .i64 B) ∧ w'.cell? ⟨g, 2, none⟩ = some (.int .i64 C) ∧ w'.cell? ⟨g, 3, none⟩ = some (.int .i64 D))
    (first
      | exact KP.out _ hB
      | exact KP.out _ (hB.alloc hB.size _))
    (fail)
  go_wp2
  have hb2 : Below w1.heap.size w1 (w1.alloc (.cells #[.int .i64 A, .int .i64 B, .int .i64 C, .int .i64 D] 92)).drew := ⟨rfl, rfl, rfl, by simp, fun k hk => Below.heap_alloc _ _ _ hk⟩
  have hB2 : (w1.alloc (.cells #[.int .i64 A, .int .i64 B, .int .i64 C, .int .i64 D] 92)).drew.heap[w1.heap.size]? = _ := alloc_new w1 (.cells #[.int .i64 A, .int .i64 B, .int .i64 C, .int .i64 D] 92) _ rfl
  generalize (w1.alloc (.cells #[.int .i64 A, .int .i64 B, .int .i64 C, .int .i64 D] 92)).drew = w2 at *
  have l2 := lt_of_block hB2
  have hbb2 := below_then hbb1 hb2 hbb1.size
  have hg3 : g < w2.heap.size := by have := hb2.size; omega
  have hBz := (hb2.block _ (lt_of_block HB1.out)).trans HB1.out
  have hbD : Below w2.heap.size w2 w2.drew := ⟨rfl, rfl, rfl, Nat.le_refl _, fun _ _ => rfl⟩
  have hne : w1.heap.size ≠ w.heap.size := by have := lt_of_block HB1.out; omega
  have hne2 : g ≠ w.heap.size := by omega
  have hS : ∀ w', Chg (fun k => k = w.heap.size) w2 w' → (∀ i, w'.cell? ⟨w1.heap.size, i, none⟩ = (#[.int .i64 A, .int .i64 B, .int .i64 C, .int .i64 D] : Array Value)[i]?) :=
    fun w' h => cell_blk ((h.block _ l2 hne).trans hB2)
  have HS := Lib.hid hS
  have HBZ := Lib.hid hBz
  clear k0 k1 k2 k3 hB2 hBz hS
  have hv := HOK.out
  have HV := Lib.hid hv
  clear hv
  first
    | (go_region_held3 (fun w' => (∀ i, w'.cell? ⟨w1.heap.size, i, none⟩ = (#[.int .i64 A, .int .i64 B, .int .i64 C, .int .i64 D] : Array Value)[i]?))
        (first
          | exact HS.out _ (Chg.of_below hbD _)
          | exact HS.out _ (Chg.of_below hbP _)
          | exact HS.out _ (chg4 hbP _ _ _ _))
        (first
          | (go_at_call 108; refine (HM.out _).mono ?_; rintro e wp ⟨rfl, hbp⟩; have hbP := below_then hbD hbp hbD.size; have cz := cell_blk ((hbP.block _ (lt_of_block HBZ.out)).trans HBZ.out); have fz := free_blk ((hbP.block _ (lt_of_block HBZ.out)).trans HBZ.out))))
    | fail "held"
  all_goals
    have hbb9 := below_then hbb2 hbP hbb2.size
    have hBzP := (hbP.block _ (lt_of_block HBZ.out)).trans HBZ.out
    have HBP := Lib.hid hBzP
    clear hBzP hbp hbP
    go_wp2
    generalize hW2 : World.setCell _ ⟨w.heap.size, 3, none⟩ _ = W2
    have hb9 : Below w.heap.size w W2 := by rw [← hW2]; exact set4' hbb9 _ _ _ _
    have cl2 := cell_blk (show W2.heap[w.heap.size]? = _ by rw [← hW2]; exact blk4 HBP.out _ _ _ _)
    exact bodyPost_ret (v := .tuple #[.agg #[.int .i64 A, .int .i64 B, .int .i64 C, .int .i64 D], .bool _]) (by first | (simp [results, Tryz.results107, go_sem, cl2]; done) | (simp [results, Tryz.results107, go_sem, cl2]; rfl)) rfl ⟨by first | (rw [HV.out]; done) | (rw [HV.out]; rfl), hb9⟩
end Go.Proofs.YtnjpaanjgbfbaaaGreat
/- The walk of chapter 8: cells. Printed by gen_cli.py. -/
namespace Go.Proofs.YtnjpaanjgbfbaaaGreat
set_option linter.unusedVariables false
set_option linter.unusedSimpArgs false
open Go.RowKit

theorem piecesT : SlT 32 59 4 32 := ⟨Tryz.underlying32, ⟨.agg #[.int .i64 0, .int .i64 0, .int .i64 0, .int .i64 0], by kernel_rfl, rfl⟩, by omega⟩
theorem kidsT : SlT 90 92 4 32 := ⟨Tryz.underlying90, ⟨.agg #[.int .i64 0, .int .i64 0, .int .i64 0, .int .i64 0], by kernel_rfl, rfl⟩, by omega⟩
theorem add0 (g n : Nat) : (⟨g, 0, none⟩ : Addr).add n = ⟨g, n, none⟩ := by unfold Addr.add; split <;> simp_all
theorem qC_one (x : P.Q) : ∀ u ∈ qC x, u.oneCell' = true := by
  intro u hu
  simp only [qC, List.mem_cons, List.not_mem_nil, or_false] at hu
  rcases hu with rfl | rfl | rfl | rfl <;> rfl
theorem qCs_snoc (l : List P.Q) (x : P.Q) : qCs (l ++ [x]) = qCs l ++ qC x := by simp [qCs]
theorem RQ_one (w : World) (t : TypeId) (x : P.Q) : RV (w.alloc (.cells #[.int .i64 x.a, .int .i64 x.b, .int .i64 x.c, .int .i64 x.d] t)) (some ⟨w.heap.size, 0, none⟩) 1 4 (qC x) := RV_lit w t 1 4 (qC x) rfl (by unfold maxLen; omega)

set_option maxRecDepth 100000 in
set_option maxHeartbeats 1600000 in
theorem cellsP_len (kk lv : Int) (ct ga pv : Nat) (BD : List UInt8) (w : World) (hr : Rd w (some ⟨ga, 0, none⟩) 248 BD) (hpv : 248 ≤ pv) (hc : ct < 1 ∨ 20 < ct) :
    Calls Tryz.prog 101 #[.agg #[.int .i64 kk, .int .i64 lv, .int .i64 (ct : Nat), .slice (some ⟨ga, 0, none⟩) 248 pv], .int .i64 20, .int .i64 12, .func (.func 102) #[] #[]] w fun e w' => e = .returned (.tuple #[.slice none 0 0, .int .i64 4]) ∧ Below w.heap.size w w' := by
  have hb0 : Below w.heap.size w (w.alloc (.cells #[.int .i64 kk, .int .i64 lv, .int .i64 (ct : Nat), .slice (some ⟨ga, 0, none⟩) 248 pv] 89)) := (Below.refl _ w).alloc (Nat.le_refl _) _
  clear hr
  go_enter Tryz.func101, Tryz.ntmps101
  go_wp2
  all_goals
    first
      | (exfalso; omega)
      | (go_ret2; exact ⟨rfl, hb0⟩)
set_option maxRecDepth 100000 in
set_option maxHeartbeats 1600000 in
theorem cellsP_tail (kk lv : Int) (ct ga pv : Nat) (BD : List UInt8) (w : World) (hr : Rd w (some ⟨ga, 0, none⟩) 248 BD) (hpv : 248 ≤ pv) (hc : 1 ≤ ct ∧ ct ≤ 20) (hz : P.zeros (BD.drop (12 * ct)) = false) :
    Calls Tryz.prog 101 #[.agg #[.int .i64 kk, .int .i64 lv, .int .i64 (ct : Nat), .slice (some ⟨ga, 0, none⟩) 248 pv], .int .i64 20, .int .i64 12, .func (.func 102) #[] #[]] w fun e w' => e = .returned (.tuple #[.slice none 0 0, .int .i64 4]) ∧ Below w.heap.size w w' := by
  have hb0 : Below w.heap.size w (w.alloc (.cells #[.int .i64 kk, .int .i64 lv, .int .i64 (ct : Nat), .slice (some ⟨ga, 0, none⟩) 248 pv] 89)) := (Below.refl _ w).alloc (Nat.le_refl _) _
  obtain ⟨M, hM⟩ : ∃ M, M = 12 * ct := ⟨_, rfl⟩
  have hMl : M ≤ 240 := by omega
  have hM1 : 1 ≤ M := by omega
  have hmul : (ct : Int) * 12 = (M : Int) := by omega
  have hcap : ¬ pv = M := by omega
  have hd : Rd (w.alloc (.cells #[.int .i64 kk, .int .i64 lv, .int .i64 (ct : Nat), .slice (some ⟨ga, 0, none⟩) 248 pv] 89)) (some ⟨ga, M, none⟩) (248 - M) (BD.drop M) := by
    have h := (hr.below hb0).drop M
    rwa [add_lit _ M (by omega), Nat.zero_add] at h
  have c1 : decide ((ct : Int) < 1) = false := decide_eq_false (by omega)
  have c2 : decide (20 < (ct : Int)) = false := decide_eq_false (by omega)
  have i1 : (0 : Int) ≤ (M : Int) := by omega
  have i2 : (M : Int) ≤ 248 := by omega
  rw [← hM] at hz
  have HD := Lib.hid hd
  have HM := Lib.hid hM
  clear hr hM hd
  go_enter Tryz.func101, Tryz.ntmps101
  go_wp2_with fail
  refine (cnoughts_any _ _ _ (BD.drop M) _ HD.out).mono ?_
  rw [hz]
  rintro e w2 ⟨rfl, rfl⟩
  go_wp2
  go_ret2
  exact ⟨rfl, hb0⟩
set_option maxRecDepth 100000 in
set_option maxHeartbeats 3200000 in
theorem cellsP_loop (kk lv : Int) (ct ga pv : Nat) (BD : List UInt8) (w : World) (hr : Rd w (some ⟨ga, 0, none⟩) 248 BD) (hpv : 248 ≤ pv) (hc : 1 ≤ ct ∧ ct ≤ 20) (hz : P.zeros (BD.drop (12 * ct)) = true) (E : Int) (N : Nat) (L : List P.Q)
    (hG : (∀ i, i < ct → P.okP (P.chunk 12 BD i) = true) → E = 0 ∧ N = ct ∧ L = P.cellsOf P.decP 12 BD ct) (hB : ∀ j, j < ct → P.okP (P.chunk 12 BD j) = false → E = 4 ∧ N = 0 ∧ L = []) :
    Calls Tryz.prog 101 #[.agg #[.int .i64 kk, .int .i64 lv, .int .i64 (ct : Nat), .slice (some ⟨ga, 0, none⟩) 248 pv], .int .i64 20, .int .i64 12, .func (.func 102) #[] #[]] w fun e w' => ∃ v, e = .returned (.tuple #[v, .int .i64 E]) ∧ OV w' w.heap.size 59 4 v N (qCs L) ∧ Below w.heap.size w w' := by
  have hb0 : Below w.heap.size w (w.alloc (.cells #[.int .i64 kk, .int .i64 lv, .int .i64 (ct : Nat), .slice (some ⟨ga, 0, none⟩) 248 pv] 89)) := (Below.refl _ w).alloc (Nat.le_refl _) _
  have hk0 : (w.alloc (.cells #[.int .i64 kk, .int .i64 lv, .int .i64 (ct : Nat), .slice (some ⟨ga, 0, none⟩) 248 pv] 89)).heap[w.heap.size]? = _ := alloc_new _ _ _ rfl
  have HG := Lib.hid hG
  have HBAD := Lib.hid hB
  obtain ⟨M, hM⟩ : ∃ M, M = 12 * ct := ⟨_, rfl⟩
  have hMl : M ≤ 240 := by omega
  have hM1 : 1 ≤ M := by omega
  have hmul : (ct : Int) * 12 = (M : Int) := by omega
  have hcap : ¬ pv = M := by omega
  have hd : Rd (w.alloc (.cells #[.int .i64 kk, .int .i64 lv, .int .i64 (ct : Nat), .slice (some ⟨ga, 0, none⟩) 248 pv] 89)) (some ⟨ga, M, none⟩) (248 - M) (BD.drop M) := by
    have h := (hr.below hb0).drop M
    rwa [add_lit _ M (by omega), Nat.zero_add] at h
  have c1 : decide ((ct : Int) < 1) = false := decide_eq_false (by omega)
  have c2 : decide (20 < (ct : Int)) = false := decide_eq_false (by omega)
  have i1 : (0 : Int) ≤ (M : Int) := by omega
  have i2 : (M : Int) ≤ 248 := by omega
  rw [← hM] at hz
  have HD := Lib.hid hd
  have HM := Lib.hid hM
  have HR0 := Lib.hid (hr.below hb0)
  have HK0 := Lib.hid hk0
  clear hr hM hd hk0 hG hB
  go_enter Tryz.func101, Tryz.ntmps101
  go_wp2_with fail
  refine (cnoughts_any _ _ _ (BD.drop M) _ HD.out).mono ?_
  rw [hz]
  rintro e w2 ⟨rfl, rfl⟩
  go_wp2_with fail
  generalize (w.alloc (.cells #[.int .i64 kk, .int .i64 lv, .int .i64 (ct : Nat), .slice (some ⟨ga, 0, none⟩) 248 pv] 89)) = w0 at *
  have l0 : w.heap.size < w0.heap.size := lt_of_block HK0.out
  go_loopw [10, 36] (fun v i wr => ∃ j : Nat, j ≤ ct ∧ i = .int .i64 j ∧ (∃ a n c, v = .slice a n c) ∧ OV wr w0.heap.size 59 4 v j (qCs (P.cellsOf P.decP 12 BD j)) ∧ (∀ k, k < j → P.okP (P.chunk 12 BD k) = true) ∧ Below w0.heap.size w0 wr) (fun v i _ => ct - (intOf i).toNat)
  case atStart => exact ⟨0, by omega, rfl, ⟨_, _, _, rfl⟩, OV.nil _ _ _ _, fun k h => by omega, Below.refl _ _⟩
  case round =>
    obtain ⟨j, hj, rfl, ⟨av, nv, cv, rfl⟩, ho, hpre, hbr⟩ := hrel
    have HO := Lib.hid ho
    have HPRE := Lib.hid hpre
    clear ho hpre
    by_cases hlt : j < ct
    · obtain ⟨A, hA⟩ : ∃ A, A = 12 * j := ⟨_, rfl⟩
      obtain ⟨B, hB⟩ : ∃ B, B = A + 12 := ⟨_, rfl⟩
      have m1 : (j : Int) * 12 = (A : Int) := by omega
      have m2 : ((j : Int) + 1) * 12 = (B : Int) := by omega
      have m3 : B - A = 12 := by omega
      have f1 : (0 : Int) ≤ (A : Int) := by omega
      have f2 : (A : Int) ≤ (B : Int) := by omega
      have f3 : (B : Int) ≤ 248 := by omega
      have f4 : (B : Int) ≤ (pv : Int) := by omega
      have f5 : ¬ pv = A := by omega
      have hb9 : B ≤ 248 := by omega
      have gp := cell_blk ((hbr.block _ l0).trans HK0.out)
      have lw : w.heap.size < wr.heap.size := by have := hbr.size; omega
      have hch : Rd wr (some ⟨ga, A, none⟩) 12 (P.chunk 12 BD j) := by
        have h := ((HR0.out.below hbr).drop A).take 12 (by omega)
        rw [add0 ga A, hA] at h
        rw [hA]
        exact h
      have hrd := rdP_any (some ⟨ga, A, none⟩) (pv - A) (P.chunk 12 BD j) wr hch
      have hbd := HBAD.out j hlt
      have hsn := P.cellsOf_snoc P.decP 12 BD j
      have hp1 := fun (k : Nat) (hk : k < j + 1) (h : P.okP (P.chunk 12 BD j) = true) => show P.okP (P.chunk 12 BD k) = true by
        rcases Nat.lt_or_ge k j with h0 | h0
        · exact HPRE.out k h0
        · obtain rfl : k = j := by omega
          exact h
      have HP1 := Lib.hid hp1
      have HBD := Lib.hid hbd
      have HSN := Lib.hid hsn
      clear hA hB hp1 hbd hsn hch
      rcases hok : P.okP (P.chunk 12 BD j) with _ | _
      case false =>
        rw [hok] at hrd
        obtain ⟨z1, z2, z3⟩ := HBD.out hok
        generalize P.decP (P.chunk 12 BD j) = Q at *
        obtain ⟨qa, qb, qc, qd⟩ := Q
        unfold qV at hrd
        have HRDX := Lib.hid hrd
        clear hrd
        go_wp2_with fail
        refine HRDX.out.mono ?_
        rintro e w3 ⟨rfl, hb3⟩
        have hbb3 := hb0.trans ((below_then hbr hb3 hbr.size).mono hb0.size)
        go_wp2
        go_ret2
        exact ⟨_, by rw [z1]; rfl, by rw [z2, z3]; exact OV.nil _ _ _ _, hbb3.alloc hbb3.size _⟩
      case true =>
        rw [hok] at hrd
        generalize P.decP (P.chunk 12 BD j) = Q at *
        obtain ⟨qa, qb, qc, qd⟩ := Q
        unfold qV at hrd
        have HRDX := Lib.hid hrd
        clear hrd
        go_wp2_with fail
        refine HRDX.out.mono ?_
        rintro e w3 ⟨rfl, hb3⟩
        have hbb3 := below_then hbr hb3 hbr.size
        have hb5 : Below w3.heap.size w3 ((w3.alloc (.cells #[.int .i64 qa, .int .i64 qb, .int .i64 qc, .int .i64 qd] 59)).alloc (.cells #[.int .i64 qa, .int .i64 qb, .int .i64 qc, .int .i64 qd] 59)) := ((Below.refl _ w3).alloc (Nat.le_refl _) _).alloc (by simp) _
        have hrq : RV ((w3.alloc (.cells #[.int .i64 qa, .int .i64 qb, .int .i64 qc, .int .i64 qd] 59)).alloc (.cells #[.int .i64 qa, .int .i64 qb, .int .i64 qc, .int .i64 qd] 59)) (some ⟨w3.heap.size + 1, 0, none⟩) 1 4 (qC ⟨qa, qb, qc, qd⟩) := by
          have h := RQ_one (w3.alloc (.cells #[.int .i64 qa, .int .i64 qb, .int .i64 qc, .int .i64 qd] 59)) 59 ⟨qa, qb, qc, qd⟩
          have e : (w3.alloc (.cells #[.int .i64 qa, .int .i64 qb, .int .i64 qc, .int .i64 qd] 59)).heap.size = w3.heap.size + 1 := by simp
          rw [e] at h
          exact h
        have hbt := hb3.trans (hb5.mono hb3.size)
        have hst : w0.heap.size ≤ ((w3.alloc (.cells #[.int .i64 qa, .int .i64 qb, .int .i64 qc, .int .i64 qd] 59)).alloc (.cells #[.int .i64 qa, .int .i64 qb, .int .i64 qc, .int .i64 qd] 59)).heap.size := by have := hbb3.size; simp; omega
        have HRQ := Lib.hid hrq
        have HBT := Lib.hid hbt
        clear hrq hbt gp hb5
        go_wp2_with (at_builtin; refine wpList_appV piecesT _ rfl _ _ rfl w0.heap.size _ _ _ rfl (HO.out.below HBT.out) _ _ _ _ rfl HRQ.out (qC_one _) ?c1 ?c2 hst ?_)
        case c1 => omega
        case c2 => omega
        intro v1 w1 hown1 hg1 hat1
        have hb1 : Below w0.heap.size w0 w1 := (HO.out.below HBT.out).grown (below_then hbr HBT.out hbr.size) hst hg1
        rw [← qCs_snoc, ← HSN.out] at hown1
        obtain ⟨a1, c1, hv1, -, -, -, -⟩ := hown1.form
        subst hv1
        have HO1 := Lib.hid hown1
        clear hown1 hg1 hat1
        go_wp2
        go_roundw
        case rel => exact ⟨j + 1, by omega, by first | go_num | (simp; done), ⟨_, _, _, rfl⟩, HO1.out, fun k hk => HP1.out k hk hok, hb1⟩
        case measure => simp [intOf]; omega
    · obtain rfl : j = ct := by omega
      obtain ⟨g1, g2, g3⟩ := HG.out (fun i hi => HPRE.out i hi)
      have hbb := hb0.trans (hbr.mono hb0.size)
      go_wp2
      go_ret2
      exact ⟨_, by rw [g1]; rfl, by rw [g2, g3]; exact HO.out.mono hb0.size, hbb⟩

set_option maxRecDepth 100000 in
set_option maxHeartbeats 1600000 in
theorem cellsK_len (kk lv : Int) (ct ga pv : Nat) (BD : List UInt8) (w : World) (hr : Rd w (some ⟨ga, 0, none⟩) 248 BD) (hpv : 248 ≤ pv) (hc : ct < 1 ∨ 12 < ct) :
    Calls Tryz.prog 106 #[.agg #[.int .i64 kk, .int .i64 lv, .int .i64 (ct : Nat), .slice (some ⟨ga, 0, none⟩) 248 pv], .int .i64 12, .int .i64 20, .func (.func 107) #[] #[]] w fun e w' => e = .returned (.tuple #[.slice none 0 0, .int .i64 4]) ∧ Below w.heap.size w w' := by
  have hb0 : Below w.heap.size w (w.alloc (.cells #[.int .i64 kk, .int .i64 lv, .int .i64 (ct : Nat), .slice (some ⟨ga, 0, none⟩) 248 pv] 89)) := (Below.refl _ w).alloc (Nat.le_refl _) _
  clear hr
  go_enter Tryz.func106, Tryz.ntmps106
  go_wp2
  all_goals
    first
      | (exfalso; omega)
      | (go_ret2; exact ⟨rfl, hb0⟩)
set_option maxRecDepth 100000 in
set_option maxHeartbeats 1600000 in
theorem cellsK_tail (kk lv : Int) (ct ga pv : Nat) (BD : List UInt8) (w : World) (hr : Rd w (some ⟨ga, 0, none⟩) 248 BD) (hpv : 248 ≤ pv) (hc : 1 ≤ ct ∧ ct ≤ 12) (hz : P.zeros (BD.drop (20 * ct)) = false) :
    Calls Tryz.prog 106 #[.agg #[.int .i64 kk, .int .i64 lv, .int .i64 (ct : Nat), .slice (some ⟨ga, 0, none⟩) 248 pv], .int .i64 12, .int .i64 20, .func (.func 107) #[] #[]] w fun e w' => e = .returned (.tuple #[.slice none 0 0, .int .i64 4]) ∧ Below w.heap.size w w' := by
  have hb0 : Below w.heap.size w (w.alloc (.cells #[.int .i64 kk, .int .i64 lv, .int .i64 (ct : Nat), .slice (some ⟨ga, 0, none⟩) 248 pv] 89)) := (Below.refl _ w).alloc (Nat.le_refl _) _
  obtain ⟨M, hM⟩ : ∃ M, M = 20 * ct := ⟨_, rfl⟩
  have hMl : M ≤ 240 := by omega
  have hM1 : 1 ≤ M := by omega
  have hmul : (ct : Int) * 20 = (M : Int) := by omega
  have hcap : ¬ pv = M := by omega
  have hd : Rd (w.alloc (.cells #[.int .i64 kk, .int .i64 lv, .int .i64 (ct : Nat), .slice (some ⟨ga, 0, none⟩) 248 pv] 89)) (some ⟨ga, M, none⟩) (248 - M) (BD.drop M) := by
    have h := (hr.below hb0).drop M
    rwa [add_lit _ M (by omega), Nat.zero_add] at h
  have c1 : decide ((ct : Int) < 1) = false := decide_eq_false (by omega)
  have c2 : decide (12 < (ct : Int)) = false := decide_eq_false (by omega)
  have i1 : (0 : Int) ≤ (M : Int) := by omega
  have i2 : (M : Int) ≤ 248 := by omega
  rw [← hM] at hz
  have HD := Lib.hid hd
  have HM := Lib.hid hM
  clear hr hM hd
  go_enter Tryz.func106, Tryz.ntmps106
  go_wp2_with fail
  refine (cnoughts_any _ _ _ (BD.drop M) _ HD.out).mono ?_
  rw [hz]
  rintro e w2 ⟨rfl, rfl⟩
  go_wp2
  go_ret2
  exact ⟨rfl, hb0⟩
set_option maxRecDepth 100000 in
set_option maxHeartbeats 3200000 in
theorem cellsK_loop (kk lv : Int) (ct ga pv : Nat) (BD : List UInt8) (w : World) (hr : Rd w (some ⟨ga, 0, none⟩) 248 BD) (hpv : 248 ≤ pv) (hc : 1 ≤ ct ∧ ct ≤ 12) (hz : P.zeros (BD.drop (20 * ct)) = true) (E : Int) (N : Nat) (L : List P.Q)
    (hG : (∀ i, i < ct → P.okK (P.chunk 20 BD i) = true) → E = 0 ∧ N = ct ∧ L = P.cellsOf P.decK 20 BD ct) (hB : ∀ j, j < ct → P.okK (P.chunk 20 BD j) = false → E = 4 ∧ N = 0 ∧ L = []) :
    Calls Tryz.prog 106 #[.agg #[.int .i64 kk, .int .i64 lv, .int .i64 (ct : Nat), .slice (some ⟨ga, 0, none⟩) 248 pv], .int .i64 12, .int .i64 20, .func (.func 107) #[] #[]] w fun e w' => ∃ v, e = .returned (.tuple #[v, .int .i64 E]) ∧ OV w' w.heap.size 92 4 v N (qCs L) ∧ Below w.heap.size w w' := by
  have hb0 : Below w.heap.size w (w.alloc (.cells #[.int .i64 kk, .int .i64 lv, .int .i64 (ct : Nat), .slice (some ⟨ga, 0, none⟩) 248 pv] 89)) := (Below.refl _ w).alloc (Nat.le_refl _) _
  have hk0 : (w.alloc (.cells #[.int .i64 kk, .int .i64 lv, .int .i64 (ct : Nat), .slice (some ⟨ga, 0, none⟩) 248 pv] 89)).heap[w.heap.size]? = _ := alloc_new _ _ _ rfl
  have HG := Lib.hid hG
  have HBAD := Lib.hid hB
  obtain ⟨M, hM⟩ : ∃ M, M = 20 * ct := ⟨_, rfl⟩
  have hMl : M ≤ 240 := by omega
  have hM1 : 1 ≤ M := by omega
  have hmul : (ct : Int) * 20 = (M : Int) := by omega
  have hcap : ¬ pv = M := by omega
  have hd : Rd (w.alloc (.cells #[.int .i64 kk, .int .i64 lv, .int .i64 (ct : Nat), .slice (some ⟨ga, 0, none⟩) 248 pv] 89)) (some ⟨ga, M, none⟩) (248 - M) (BD.drop M) := by
    have h := (hr.below hb0).drop M
    rwa [add_lit _ M (by omega), Nat.zero_add] at h
  have c1 : decide ((ct : Int) < 1) = false := decide_eq_false (by omega)
  have c2 : decide (12 < (ct : Int)) = false := decide_eq_false (by omega)
  have i1 : (0 : Int) ≤ (M : Int) := by omega
  have i2 : (M : Int) ≤ 248 := by omega
  rw [← hM] at hz
  have HD := Lib.hid hd
  have HM := Lib.hid hM
  have HR0 := Lib.hid (hr.below hb0)
  have HK0 := Lib.hid hk0
  clear hr hM hd hk0 hG hB
  go_enter Tryz.func106, Tryz.ntmps106
  go_wp2_with fail
  refine (cnoughts_any _ _ _ (BD.drop M) _ HD.out).mono ?_
  rw [hz]
  rintro e w2 ⟨rfl, rfl⟩
  go_wp2_with fail
  generalize (w.alloc (.cells #[.int .i64 kk, .int .i64 lv, .int .i64 (ct : Nat), .slice (some ⟨ga, 0, none⟩) 248 pv] 89)) = w0 at *
  have l0 : w.heap.size < w0.heap.size := lt_of_block HK0.out
  go_loopw [10, 36] (fun v i wr => ∃ j : Nat, j ≤ ct ∧ i = .int .i64 j ∧ (∃ a n c, v = .slice a n c) ∧ OV wr w0.heap.size 92 4 v j (qCs (P.cellsOf P.decK 20 BD j)) ∧ (∀ k, k < j → P.okK (P.chunk 20 BD k) = true) ∧ Below w0.heap.size w0 wr) (fun v i _ => ct - (intOf i).toNat)
  case atStart => exact ⟨0, by omega, rfl, ⟨_, _, _, rfl⟩, OV.nil _ _ _ _, fun k h => by omega, Below.refl _ _⟩
  case round =>
    obtain ⟨j, hj, rfl, ⟨av, nv, cv, rfl⟩, ho, hpre, hbr⟩ := hrel
    have HO := Lib.hid ho
    have HPRE := Lib.hid hpre
    clear ho hpre
    by_cases hlt : j < ct
    · obtain ⟨A, hA⟩ : ∃ A, A = 20 * j := ⟨_, rfl⟩
      obtain ⟨B, hB⟩ : ∃ B, B = A + 20 := ⟨_, rfl⟩
      have m1 : (j : Int) * 20 = (A : Int) := by omega
      have m2 : ((j : Int) + 1) * 20 = (B : Int) := by omega
      have m3 : B - A = 20 := by omega
      have f1 : (0 : Int) ≤ (A : Int) := by omega
      have f2 : (A : Int) ≤ (B : Int) := by omega
      have f3 : (B : Int) ≤ 248 := by omega
      have f4 : (B : Int) ≤ (pv : Int) := by omega
      have f5 : ¬ pv = A := by omega
      have hb9 : B ≤ 248 := by omega
      have gp := cell_blk ((hbr.block _ l0).trans HK0.out)
      have lw : w.heap.size < wr.heap.size := by have := hbr.size; omega
      have hch : Rd wr (some ⟨ga, A, none⟩) 20 (P.chunk 20 BD j) := by
        have h := ((HR0.out.below hbr).drop A).take 20 (by omega)
        rw [add0 ga A, hA] at h
        rw [hA]
        exact h
      have hrd := rdK_any (some ⟨ga, A, none⟩) (pv - A) (P.chunk 20 BD j) wr hch
      have hbd := HBAD.out j hlt
      have hsn := P.cellsOf_snoc P.decK 20 BD j
      have hkx := Lib.hid ((kidX_ok (P.chunk 20 BD j)).2)
      have hp1 := fun (k : Nat) (hk : k < j + 1) (h : P.okK (P.chunk 20 BD j) = true) => show P.okK (P.chunk 20 BD k) = true by
        rcases Nat.lt_or_ge k j with h0 | h0
        · exact HPRE.out k h0
        · obtain rfl : k = j := by omega
          exact h
      have HP1 := Lib.hid hp1
      have HBD := Lib.hid hbd
      have HSN := Lib.hid hsn
      clear hA hB hp1 hbd hsn hch
      rcases hok : P.okK (P.chunk 20 BD j) with _ | _
      case false =>
        rw [hok] at hrd
        obtain ⟨z1, z2, z3⟩ := HBD.out hok
        generalize kidX (P.chunk 20 BD j) = Q at *
        obtain ⟨qa, qb, qc, qd⟩ := Q
        unfold qV at hrd
        have HRDX := Lib.hid hrd
        clear hrd
        go_wp2_with fail
        refine HRDX.out.mono ?_
        rintro e w3 ⟨rfl, hb3⟩
        have hbb3 := hb0.trans ((below_then hbr hb3 hbr.size).mono hb0.size)
        go_wp2
        go_ret2
        exact ⟨_, by rw [z1]; rfl, by rw [z2, z3]; exact OV.nil _ _ _ _, hbb3.alloc hbb3.size _⟩
      case true =>
        rw [hok] at hrd
        rw [hkx.out hok] at hrd
        generalize P.decK (P.chunk 20 BD j) = Q at *
        obtain ⟨qa, qb, qc, qd⟩ := Q
        unfold qV at hrd
        have HRDX := Lib.hid hrd
        clear hrd
        go_wp2_with fail
        refine HRDX.out.mono ?_
        rintro e w3 ⟨rfl, hb3⟩
        have hbb3 := below_then hbr hb3 hbr.size
        have hb5 : Below w3.heap.size w3 ((w3.alloc (.cells #[.int .i64 qa, .int .i64 qb, .int .i64 qc, .int .i64 qd] 92)).alloc (.cells #[.int .i64 qa, .int .i64 qb, .int .i64 qc, .int .i64 qd] 92)) := ((Below.refl _ w3).alloc (Nat.le_refl _) _).alloc (by simp) _
        have hrq : RV ((w3.alloc (.cells #[.int .i64 qa, .int .i64 qb, .int .i64 qc, .int .i64 qd] 92)).alloc (.cells #[.int .i64 qa, .int .i64 qb, .int .i64 qc, .int .i64 qd] 92)) (some ⟨w3.heap.size + 1, 0, none⟩) 1 4 (qC ⟨qa, qb, qc, qd⟩) := by
          have h := RQ_one (w3.alloc (.cells #[.int .i64 qa, .int .i64 qb, .int .i64 qc, .int .i64 qd] 92)) 92 ⟨qa, qb, qc, qd⟩
          have e : (w3.alloc (.cells #[.int .i64 qa, .int .i64 qb, .int .i64 qc, .int .i64 qd] 92)).heap.size = w3.heap.size + 1 := by simp
          rw [e] at h
          exact h
        have hbt := hb3.trans (hb5.mono hb3.size)
        have hst : w0.heap.size ≤ ((w3.alloc (.cells #[.int .i64 qa, .int .i64 qb, .int .i64 qc, .int .i64 qd] 92)).alloc (.cells #[.int .i64 qa, .int .i64 qb, .int .i64 qc, .int .i64 qd] 92)).heap.size := by have := hbb3.size; simp; omega
        have HRQ := Lib.hid hrq
        have HBT := Lib.hid hbt
        clear hrq hbt gp hb5
        go_wp2_with (at_builtin; refine wpList_appV kidsT _ rfl _ _ rfl w0.heap.size _ _ _ rfl (HO.out.below HBT.out) _ _ _ _ rfl HRQ.out (qC_one _) ?c1 ?c2 hst ?_)
        case c1 => omega
        case c2 => omega
        intro v1 w1 hown1 hg1 hat1
        have hb1 : Below w0.heap.size w0 w1 := (HO.out.below HBT.out).grown (below_then hbr HBT.out hbr.size) hst hg1
        rw [← qCs_snoc, ← HSN.out] at hown1
        obtain ⟨a1, c1, hv1, -, -, -, -⟩ := hown1.form
        subst hv1
        have HO1 := Lib.hid hown1
        clear hown1 hg1 hat1
        go_wp2
        go_roundw
        case rel => exact ⟨j + 1, by omega, by first | go_num | (simp; done), ⟨_, _, _, rfl⟩, HO1.out, fun k hk => HP1.out k hk hok, hb1⟩
        case measure => simp [intOf]; omega
    · obtain rfl : j = ct := by omega
      obtain ⟨g1, g2, g3⟩ := HG.out (fun i hi => HPRE.out i hi)
      have hbb := hb0.trans (hbr.mono hb0.size)
      go_wp2
      go_ret2
      exact ⟨_, by rw [g1]; rfl, by rw [g2, g3]; exact HO.out.mono hb0.size, hbb⟩
end Go.Proofs.YtnjpaanjgbfbaaaGreat
/- The walks of chapter 8: Pieces, Kids. Printed by gen_cll.py. -/
namespace Go.Proofs.YtnjpaanjgbfbaaaGreat
set_option linter.unusedVariables false
set_option linter.unusedSimpArgs false
open Go.RowKit

theorem clbody_length {l : List UInt8} (h : P.openErr l = 0) : (P.openBody l).length = 248 := by
  have := P.openErr_len l h
  simp [P.openBody]
  omega
theorem cellsP_fun (kk lv : Int) (ct ga pv : Nat) (BD : List UInt8) (w : World) (hr : Rd w (some ⟨ga, 0, none⟩) 248 BD) (hpv : 248 ≤ pv) (E : Int) (N : Nat) (L : List P.Q)
    (hG : 1 ≤ ct ∧ ct ≤ 20 ∧ P.zeros (BD.drop (12 * ct)) = true ∧ (∀ i, i < ct → P.okP (P.chunk 12 BD i) = true) → E = 0 ∧ N = ct ∧ L = P.cellsOf P.decP 12 BD ct)
    (hB : ¬ (1 ≤ ct ∧ ct ≤ 20 ∧ P.zeros (BD.drop (12 * ct)) = true ∧ (∀ i, i < ct → P.okP (P.chunk 12 BD i) = true)) → E = 4 ∧ N = 0 ∧ L = []) :
    Calls Tryz.prog 101 #[.agg #[.int .i64 kk, .int .i64 lv, .int .i64 (ct : Nat), .slice (some ⟨ga, 0, none⟩) 248 pv], .int .i64 20, .int .i64 12, .func (.func 102) #[] #[]] w fun e w' =>
      ∃ v, e = .returned (.tuple #[v, .int .i64 E]) ∧ OV w' w.heap.size 59 4 v N (qCs L) ∧ Below w.heap.size w w' := by
  by_cases hc : 1 ≤ ct ∧ ct ≤ 20
  case neg =>
    obtain ⟨z1, z2, z3⟩ := hB (fun h => hc ⟨h.1, h.2.1⟩)
    subst z1 z2 z3
    exact (cellsP_len kk lv ct ga pv BD w hr hpv (by omega)).mono fun e w' ⟨h1, h2⟩ => ⟨_, h1, OV.nil _ _ _ _, h2⟩
  rcases hz : P.zeros (BD.drop (12 * ct)) with _ | _
  · obtain ⟨z1, z2, z3⟩ := hB (fun h => by rw [hz] at h; cases h.2.2.1)
    subst z1 z2 z3
    exact (cellsP_tail kk lv ct ga pv BD w hr hpv hc hz).mono fun e w' ⟨h1, h2⟩ => ⟨_, h1, OV.nil _ _ _ _, h2⟩
  · exact cellsP_loop kk lv ct ga pv BD w hr hpv hc hz E N L (fun h => hG ⟨hc.1, hc.2, hz, h⟩) (fun j hj h => hB (fun hg => by rw [hg.2.2.2 j hj] at h; cases h))
theorem cellsK_fun (kk lv : Int) (ct ga pv : Nat) (BD : List UInt8) (w : World) (hr : Rd w (some ⟨ga, 0, none⟩) 248 BD) (hpv : 248 ≤ pv) (E : Int) (N : Nat) (L : List P.Q)
    (hG : 1 ≤ ct ∧ ct ≤ 12 ∧ P.zeros (BD.drop (20 * ct)) = true ∧ (∀ i, i < ct → P.okK (P.chunk 20 BD i) = true) → E = 0 ∧ N = ct ∧ L = P.cellsOf P.decK 20 BD ct)
    (hB : ¬ (1 ≤ ct ∧ ct ≤ 12 ∧ P.zeros (BD.drop (20 * ct)) = true ∧ (∀ i, i < ct → P.okK (P.chunk 20 BD i) = true)) → E = 4 ∧ N = 0 ∧ L = []) :
    Calls Tryz.prog 106 #[.agg #[.int .i64 kk, .int .i64 lv, .int .i64 (ct : Nat), .slice (some ⟨ga, 0, none⟩) 248 pv], .int .i64 12, .int .i64 20, .func (.func 107) #[] #[]] w fun e w' =>
      ∃ v, e = .returned (.tuple #[v, .int .i64 E]) ∧ OV w' w.heap.size 92 4 v N (qCs L) ∧ Below w.heap.size w w' := by
  by_cases hc : 1 ≤ ct ∧ ct ≤ 12
  case neg =>
    obtain ⟨z1, z2, z3⟩ := hB (fun h => hc ⟨h.1, h.2.1⟩)
    subst z1 z2 z3
    exact (cellsK_len kk lv ct ga pv BD w hr hpv (by omega)).mono fun e w' ⟨h1, h2⟩ => ⟨_, h1, OV.nil _ _ _ _, h2⟩
  rcases hz : P.zeros (BD.drop (20 * ct)) with _ | _
  · obtain ⟨z1, z2, z3⟩ := hB (fun h => by rw [hz] at h; cases h.2.2.1)
    subst z1 z2 z3
    exact (cellsK_tail kk lv ct ga pv BD w hr hpv hc hz).mono fun e w' ⟨h1, h2⟩ => ⟨_, h1, OV.nil _ _ _ _, h2⟩
  · exact cellsK_loop kk lv ct ga pv BD w hr hpv hc hz E N L (fun h => hG ⟨hc.1, hc.2, hz, h⟩) (fun j hj h => hB (fun hg => by rw [hg.2.2.2 j hj] at h; cases h))
set_option maxRecDepth 100000 in
set_option maxHeartbeats 1600000 in
theorem pieces_open (a : Option Addr) (len cap : Nat) (l : List UInt8) (w : World) (hr : Rd w a len l) (hc : len ≤ cap) (he : P.openErr l ≠ 0) :
    Calls Tryz.prog 98 #[.slice a len cap] w fun e w' => e = .returned (.tuple #[.slice none 0 0, .int .i64 (P.openErr l)]) ∧ Below w.heap.size w w' := by
  have c1 : (P.openErr l != 0) = true := by simpa using he
  have HO := Lib.hid (open_fun a len cap l w hr hc)
  generalize P.openErr l = E at *
  clear hr he
  go_enter Tryz.func98, Tryz.ntmps98
  go_wp2_with fail
  refine HO.out.mono ?_
  rintro e w1 ⟨v, rfl, hown, hb1⟩
  obtain ⟨av, pv, hv, -, -, -, -⟩ := hown.form
  subst hv
  clear hown
  go_wp2
  exact bodyPost_ret (v := .tuple #[.slice none 0 0, .int .i64 E]) (by simp [results, Tryz.results98, go_sem]) rfl ⟨rfl, hb1.alloc hb1.size _⟩
set_option maxRecDepth 100000 in
set_option maxHeartbeats 1600000 in
theorem pieces_form (a : Option Addr) (len cap : Nat) (l : List UInt8) (w : World) (hr : Rd w a len l) (hc : len ≤ cap) (he : P.openErr l = 0) (hf : ¬ (P.openKind l = 3 ∧ P.openLevel l = 0)) :
    Calls Tryz.prog 98 #[.slice a len cap] w fun e w' => e = .returned (.tuple #[.slice none 0 0, .int .i64 4]) ∧ Below w.heap.size w w' := by
  have HO := open_fun a len cap l w hr hc
  rw [he, show P.oK l = ((P.openKind l : Nat) : Int) by simp [P.oK, he], show P.oL l = ((P.openLevel l : Nat) : Int) by simp [P.oL, he], show P.oC l = ((P.openCount l : Nat) : Int) by simp [P.oC, he], show P.oB l = P.openBody l by simp [P.oB, he]] at HO
  have HO := Lib.hid HO
  have hBl := clbody_length he
  generalize P.openBody l = BD at *
  generalize P.openKind l = kk at *
  generalize P.openLevel l = lv at *
  generalize P.openCount l = ct at *
  clear hr he
  go_enter Tryz.func98, Tryz.ntmps98
  go_wp2_with fail
  refine HO.out.mono ?_
  rintro e w1 ⟨v, rfl, hown, hb1⟩
  obtain ⟨ga, pv, hv, hga, -, hr1, hpv⟩ := hown.pos (by omega)
  rw [hBl] at hv hr1 hpv
  subst hv
  have HR1 := Lib.hid hr1
  clear hown hr1
  have hb2 : Below w1.heap.size w1 (w1.alloc (.cells #[.int .i64 (kk : Nat), .int .i64 (lv : Nat), .int .i64 (ct : Nat), .slice (some ⟨ga, 0, none⟩) 248 pv] 89)) := (Below.refl _ w1).alloc (Nat.le_refl _) _
  have hk2 : (w1.alloc (.cells #[.int .i64 (kk : Nat), .int .i64 (lv : Nat), .int .i64 (ct : Nat), .slice (some ⟨ga, 0, none⟩) 248 pv] 89)).heap[w1.heap.size]? = _ := alloc_new _ _ _ rfl
  by_cases d1 : (kk : Int) = 3 <;> by_cases d2 : (lv : Int) = 0
  all_goals
    go_wp2_with fail
    all_goals
      first
        | (exfalso; omega)
        | (exact bodyPost_ret (v := .tuple #[.slice none 0 0, .int .i64 4]) (by simp [results, Tryz.results98, go_sem]) rfl ⟨rfl, hb1.alloc hb1.size _⟩)
set_option maxRecDepth 100000 in
set_option maxHeartbeats 1600000 in
theorem pieces_cells (a : Option Addr) (len cap : Nat) (l : List UInt8) (w : World) (hr : Rd w a len l) (hc : len ≤ cap) (he : P.openErr l = 0) (hk : P.openKind l = 3) (hv : P.openLevel l = 0) :
    Calls Tryz.prog 98 #[.slice a len cap] w fun e w' => ∃ v, e = .returned (.tuple #[v, .int .i64 (P.pcErr l)]) ∧ OV w' w.heap.size 59 4 v (P.pcL l).length (qCs (P.pcL l)) ∧ Below w.heap.size w w' := by
  have HO := open_fun a len cap l w hr hc
  rw [he, show P.oK l = ((P.openKind l : Nat) : Int) by simp [P.oK, he], show P.oL l = ((P.openLevel l : Nat) : Int) by simp [P.oL, he], show P.oC l = ((P.openCount l : Nat) : Int) by simp [P.oC, he], show P.oB l = P.openBody l by simp [P.oB, he]] at HO
  have HO := Lib.hid HO
  have hBl := clbody_length he
  have hG : 1 ≤ P.openCount l ∧ P.openCount l ≤ 20 ∧ P.zeros ((P.openBody l).drop (12 * P.openCount l)) = true ∧ (∀ i, i < P.openCount l → P.okP (P.chunk 12 (P.openBody l) i) = true) →
      P.pcErr l = 0 ∧ (P.pcL l).length = P.openCount l ∧ P.pcL l = P.cellsOf P.decP 12 (P.openBody l) (P.openCount l) := by
    intro h
    have hg : P.goodP l := ⟨hk, hv, h.1, h.2.1, h.2.2.1, h.2.2.2⟩
    have e : P.pcErr l = 0 := by unfold P.pcErr; rw [if_neg (by simpa using he), if_pos hg]
    have e2 : P.pcL l = P.cellsOf P.decP 12 (P.openBody l) (P.openCount l) := by unfold P.pcL; rw [if_pos e]
    exact ⟨e, by rw [e2, P.cellsOf_length], e2⟩
  have hB : ¬ (1 ≤ P.openCount l ∧ P.openCount l ≤ 20 ∧ P.zeros ((P.openBody l).drop (12 * P.openCount l)) = true ∧ (∀ i, i < P.openCount l → P.okP (P.chunk 12 (P.openBody l) i) = true)) →
      P.pcErr l = 4 ∧ (P.pcL l).length = 0 ∧ P.pcL l = [] := by
    intro h
    have hg : ¬ P.goodP l := fun g => h ⟨g.2.2.1, g.2.2.2.1, g.2.2.2.2.1, g.2.2.2.2.2⟩
    have e : P.pcErr l = 4 := by unfold P.pcErr; rw [if_neg (by simpa using he), if_neg hg]
    have e2 : P.pcL l = [] := by unfold P.pcL; rw [if_neg (by omega)]
    exact ⟨e, by rw [e2]; rfl, e2⟩
  generalize P.pcErr l = E at *
  generalize P.pcL l = L at *
  generalize P.openBody l = BD at *
  generalize P.openKind l = kk at *
  generalize P.openLevel l = lv at *
  generalize P.openCount l = ct at *
  clear hr he
  have t1 : ((kk : Int) != 3) = false := by simp [hk]
  have t2 : ((lv : Int) != 0) = false := by simp [hv]
  clear hk hv
  have HG := Lib.hid hG
  have HB := Lib.hid hB
  clear hG hB
  go_enter Tryz.func98, Tryz.ntmps98
  go_wp2_with fail
  refine HO.out.mono ?_
  rintro e w1 ⟨v, rfl, hown, hb1⟩
  obtain ⟨ga, pv, hv, hga, -, hr1, hpv⟩ := hown.pos (by omega)
  rw [hBl] at hv hr1 hpv
  subst hv
  have HR1 := Lib.hid hr1
  clear hown hr1
  have hb2 : Below w1.heap.size w1 (w1.alloc (.cells #[.int .i64 (kk : Nat), .int .i64 (lv : Nat), .int .i64 (ct : Nat), .slice (some ⟨ga, 0, none⟩) 248 pv] 89)) := (Below.refl _ w1).alloc (Nat.le_refl _) _
  have hk2 : (w1.alloc (.cells #[.int .i64 (kk : Nat), .int .i64 (lv : Nat), .int .i64 (ct : Nat), .slice (some ⟨ga, 0, none⟩) 248 pv] 89)).heap[w1.heap.size]? = _ := alloc_new _ _ _ rfl
  go_wp2_with fail
  generalize (w1.alloc (.cells #[.int .i64 (kk : Nat), .int .i64 (lv : Nat), .int .i64 (ct : Nat), .slice (some ⟨ga, 0, none⟩) 248 pv] 89)) = w2 at *
  have hbb2 := below_then hb1 hb2 hb1.size
  have l2 := lt_of_block hk2
  refine (cellsP_fun _ _ ct ga pv BD w2 (HR1.out.below hb2) hpv E L.length L HG.out HB.out).mono ?_
  rintro e w3 ⟨v3, rfl, ho3, hb3⟩
  obtain ⟨a3, c3, hv3, -, -, -, -⟩ := ho3.form
  subst hv3
  have HO3 := Lib.hid (ho3.mono hbb2.size)
  have hbb3 := below_then hbb2 hb3 hbb2.size
  have gp := cell_blk ((hb3.block _ l2).trans hk2)
  have l3 : w1.heap.size < w3.heap.size := by have := hb3.size; omega
  clear ho3 hk2
  go_wp2
  go_ret2
  exact ⟨_, rfl, HO3.out, hbb3⟩
theorem pieces_fun (a : Option Addr) (len cap : Nat) (l : List UInt8) (w : World) (hr : Rd w a len l) (hc : len ≤ cap) :
    Calls Tryz.prog 98 #[.slice a len cap] w fun e w' => ∃ v, e = .returned (.tuple #[v, .int .i64 (P.pcErr l)]) ∧ OV w' w.heap.size 59 4 v (P.pcL l).length (qCs (P.pcL l)) ∧ Below w.heap.size w w' := by
  by_cases he : P.openErr l = 0
  case neg =>
    have e1 : P.pcErr l = P.openErr l := by unfold P.pcErr; rw [if_pos he]
    have e2 : P.pcL l = [] := by unfold P.pcL; rw [if_neg (by omega)]
    
    rw [e1, e2]
    exact (pieces_open a len cap l w hr hc he).mono fun e w' ⟨h1, h2⟩ => ⟨_, h1, OV.nil _ _ _ _, h2⟩
  by_cases hf : (P.openKind l = 3 ∧ P.openLevel l = 0)
  case neg =>
    have e1 : P.pcErr l = 4 := by unfold P.pcErr; rw [if_neg (by simpa using he), if_neg (fun h => hf ⟨h.1, h.2.1⟩)]
    have e2 : P.pcL l = [] := by unfold P.pcL; rw [if_neg (by omega)]
    
    rw [e1, e2]
    exact (pieces_form a len cap l w hr hc he hf).mono fun e w' ⟨h1, h2⟩ => ⟨_, h1, OV.nil _ _ _ _, h2⟩
  exact pieces_cells a len cap l w hr hc he hf.1 hf.2
set_option maxRecDepth 100000 in
set_option maxHeartbeats 1600000 in
theorem kids_open (a : Option Addr) (len cap : Nat) (l : List UInt8) (w : World) (hr : Rd w a len l) (hc : len ≤ cap) (he : P.openErr l ≠ 0) :
    Calls Tryz.prog 100 #[.slice a len cap] w fun e w' => e = .returned (.tuple #[.int .i64 0, .slice none 0 0, .int .i64 (P.openErr l)]) ∧ Below w.heap.size w w' := by
  have c1 : (P.openErr l != 0) = true := by simpa using he
  have HO := Lib.hid (open_fun a len cap l w hr hc)
  generalize P.openErr l = E at *
  clear hr he
  go_enter Tryz.func100, Tryz.ntmps100
  go_wp2_with fail
  refine HO.out.mono ?_
  rintro e w1 ⟨v, rfl, hown, hb1⟩
  obtain ⟨av, pv, hv, -, -, -, -⟩ := hown.form
  subst hv
  clear hown
  go_wp2
  exact bodyPost_ret (v := .tuple #[.int .i64 0, .slice none 0 0, .int .i64 E]) (by simp [results, Tryz.results100, go_sem]) rfl ⟨rfl, hb1.alloc hb1.size _⟩
set_option maxRecDepth 100000 in
set_option maxHeartbeats 1600000 in
theorem kids_form (a : Option Addr) (len cap : Nat) (l : List UInt8) (w : World) (hr : Rd w a len l) (hc : len ≤ cap) (he : P.openErr l = 0) (hf : ¬ (P.openKind l = 2 ∧ 1 ≤ P.openLevel l ∧ P.openLevel l ≤ 32)) :
    Calls Tryz.prog 100 #[.slice a len cap] w fun e w' => e = .returned (.tuple #[.int .i64 0, .slice none 0 0, .int .i64 4]) ∧ Below w.heap.size w w' := by
  have HO := open_fun a len cap l w hr hc
  rw [he, show P.oK l = ((P.openKind l : Nat) : Int) by simp [P.oK, he], show P.oL l = ((P.openLevel l : Nat) : Int) by simp [P.oL, he], show P.oC l = ((P.openCount l : Nat) : Int) by simp [P.oC, he], show P.oB l = P.openBody l by simp [P.oB, he]] at HO
  have HO := Lib.hid HO
  have hBl := clbody_length he
  generalize P.openBody l = BD at *
  generalize P.openKind l = kk at *
  generalize P.openLevel l = lv at *
  generalize P.openCount l = ct at *
  clear hr he
  go_enter Tryz.func100, Tryz.ntmps100
  go_wp2_with fail
  refine HO.out.mono ?_
  rintro e w1 ⟨v, rfl, hown, hb1⟩
  obtain ⟨ga, pv, hv, hga, -, hr1, hpv⟩ := hown.pos (by omega)
  rw [hBl] at hv hr1 hpv
  subst hv
  have HR1 := Lib.hid hr1
  clear hown hr1
  have hb2 : Below w1.heap.size w1 (w1.alloc (.cells #[.int .i64 (kk : Nat), .int .i64 (lv : Nat), .int .i64 (ct : Nat), .slice (some ⟨ga, 0, none⟩) 248 pv] 89)) := (Below.refl _ w1).alloc (Nat.le_refl _) _
  have hk2 : (w1.alloc (.cells #[.int .i64 (kk : Nat), .int .i64 (lv : Nat), .int .i64 (ct : Nat), .slice (some ⟨ga, 0, none⟩) 248 pv] 89)).heap[w1.heap.size]? = _ := alloc_new _ _ _ rfl
  by_cases d1 : (kk : Int) = 2 <;> by_cases d2 : (lv : Int) < 1 <;> by_cases d3 : 32 < (lv : Int)
  all_goals
    go_wp2_with fail
    all_goals
      first
        | (exfalso; omega)
        | (exact bodyPost_ret (v := .tuple #[.int .i64 0, .slice none 0 0, .int .i64 4]) (by simp [results, Tryz.results100, go_sem]) rfl ⟨rfl, hb1.alloc hb1.size _⟩)
set_option maxRecDepth 100000 in
set_option maxHeartbeats 1600000 in
theorem kids_cells (a : Option Addr) (len cap : Nat) (l : List UInt8) (w : World) (hr : Rd w a len l) (hc : len ≤ cap) (he : P.openErr l = 0) (hk : P.openKind l = 2) (hv1 : 1 ≤ P.openLevel l) (hv2 : P.openLevel l ≤ 32) :
    Calls Tryz.prog 100 #[.slice a len cap] w fun e w' => ∃ v, e = .returned (.tuple #[.int .i64 (P.kdV l), v, .int .i64 (P.kdErr l)]) ∧ OV w' w.heap.size 92 4 v (P.kdL l).length (qCs (P.kdL l)) ∧ Below w.heap.size w w' := by
  have HO := open_fun a len cap l w hr hc
  rw [he, show P.oK l = ((P.openKind l : Nat) : Int) by simp [P.oK, he], show P.oL l = ((P.openLevel l : Nat) : Int) by simp [P.oL, he], show P.oC l = ((P.openCount l : Nat) : Int) by simp [P.oC, he], show P.oB l = P.openBody l by simp [P.oB, he]] at HO
  have HO := Lib.hid HO
  have hBl := clbody_length he
  have hG : 1 ≤ P.openCount l ∧ P.openCount l ≤ 12 ∧ P.zeros ((P.openBody l).drop (20 * P.openCount l)) = true ∧ (∀ i, i < P.openCount l → P.okK (P.chunk 20 (P.openBody l) i) = true) →
      P.kdErr l = 0 ∧ (P.kdL l).length = P.openCount l ∧ P.kdL l = P.cellsOf P.decK 20 (P.openBody l) (P.openCount l) := by
    intro h
    have hg : P.goodK l := ⟨hk, hv1, hv2, h.1, h.2.1, h.2.2.1, h.2.2.2⟩
    have e : P.kdErr l = 0 := by unfold P.kdErr; rw [if_neg (by simpa using he), if_pos hg]
    have e2 : P.kdL l = P.cellsOf P.decK 20 (P.openBody l) (P.openCount l) := by unfold P.kdL; rw [if_pos e]
    exact ⟨e, by rw [e2, P.cellsOf_length], e2⟩
  have hB : ¬ (1 ≤ P.openCount l ∧ P.openCount l ≤ 12 ∧ P.zeros ((P.openBody l).drop (20 * P.openCount l)) = true ∧ (∀ i, i < P.openCount l → P.okK (P.chunk 20 (P.openBody l) i) = true)) →
      P.kdErr l = 4 ∧ (P.kdL l).length = 0 ∧ P.kdL l = [] := by
    intro h
    have hg : ¬ P.goodK l := fun g => h ⟨g.2.2.2.1, g.2.2.2.2.1, g.2.2.2.2.2.1, g.2.2.2.2.2.2⟩
    have e : P.kdErr l = 4 := by unfold P.kdErr; rw [if_neg (by simpa using he), if_neg hg]
    have e2 : P.kdL l = [] := by unfold P.kdL; rw [if_neg (by omega)]
    exact ⟨e, by rw [e2]; rfl, e2⟩
  have hV : P.kdErr l = 0 → P.kdV l = ((P.openLevel l : Nat) : Int) := by intro h; unfold P.kdV; rw [if_pos h]
  have hV0 : P.kdErr l ≠ 0 → P.kdV l = 0 := by intro h; unfold P.kdV; rw [if_neg h]
  generalize P.kdV l = V at *
  generalize P.kdErr l = E at *
  generalize P.kdL l = L at *
  generalize P.openBody l = BD at *
  generalize P.openKind l = kk at *
  generalize P.openLevel l = lv at *
  generalize P.openCount l = ct at *
  clear hr he
  have t1 : ((kk : Int) != 2) = false := by simp [hk]
  have t2 : decide ((lv : Int) < 1) = false := decide_eq_false (by omega)
  have t3 : decide (32 < (lv : Int)) = false := decide_eq_false (by omega)
  clear hk 
  have HG := Lib.hid hG
  have HB := Lib.hid hB
  clear hG hB
  have HV := Lib.hid hV
  have HV0 := Lib.hid hV0
  clear hV hV0
  go_enter Tryz.func100, Tryz.ntmps100
  go_wp2_with fail
  refine HO.out.mono ?_
  rintro e w1 ⟨v, rfl, hown, hb1⟩
  obtain ⟨ga, pv, hv, hga, -, hr1, hpv⟩ := hown.pos (by omega)
  rw [hBl] at hv hr1 hpv
  subst hv
  have HR1 := Lib.hid hr1
  clear hown hr1
  have hb2 : Below w1.heap.size w1 (w1.alloc (.cells #[.int .i64 (kk : Nat), .int .i64 (lv : Nat), .int .i64 (ct : Nat), .slice (some ⟨ga, 0, none⟩) 248 pv] 89)) := (Below.refl _ w1).alloc (Nat.le_refl _) _
  have hk2 : (w1.alloc (.cells #[.int .i64 (kk : Nat), .int .i64 (lv : Nat), .int .i64 (ct : Nat), .slice (some ⟨ga, 0, none⟩) 248 pv] 89)).heap[w1.heap.size]? = _ := alloc_new _ _ _ rfl
  go_wp2_with fail
  generalize (w1.alloc (.cells #[.int .i64 (kk : Nat), .int .i64 (lv : Nat), .int .i64 (ct : Nat), .slice (some ⟨ga, 0, none⟩) 248 pv] 89)) = w2 at *
  have hbb2 := below_then hb1 hb2 hb1.size
  have l2 := lt_of_block hk2
  refine (cellsK_fun _ _ ct ga pv BD w2 (HR1.out.below hb2) hpv E L.length L HG.out HB.out).mono ?_
  rintro e w3 ⟨v3, rfl, ho3, hb3⟩
  obtain ⟨a3, c3, hv3, -, -, -, -⟩ := ho3.form
  subst hv3
  have HO3 := Lib.hid (ho3.mono hbb2.size)
  have hbb3 := below_then hbb2 hb3 hbb2.size
  have gp := cell_blk ((hb3.block _ l2).trans hk2)
  have l3 : w1.heap.size < w3.heap.size := by have := hb3.size; omega
  clear ho3 hk2
  by_cases hE : E = 0
  · have d1 : (E != 0) = false := by simp [hE]
    have hv := HV.out hE
    have HE := Lib.hid hE
    have HVV := Lib.hid hv
    clear hE hv
    go_wp2
    exact bodyPost_ret (v := .tuple #[.int .i64 (lv : Nat), .slice a3 L.length c3, .int .i64 0]) (by simp [results, Tryz.results100, go_sem]) rfl ⟨_, by rw [HE.out, HVV.out], HO3.out, hbb3⟩
  · have d1 : (E != 0) = true := by simpa using hE
    have hv := HV0.out hE
    have e4 := HB.out (fun h => hE (HG.out h).1)
    have HVV := Lib.hid hv
    have HE4 := Lib.hid e4
    clear hE hv e4
    go_wp2
    exact bodyPost_ret (v := .tuple #[.int .i64 0, .slice none 0 0, .int .i64 E]) (by simp [results, Tryz.results100, go_sem]) rfl ⟨_, by rw [HVV.out], by rw [HE4.out.2.2]; exact OV.nil _ _ _ _, hbb3⟩
theorem kids_fun (a : Option Addr) (len cap : Nat) (l : List UInt8) (w : World) (hr : Rd w a len l) (hc : len ≤ cap) :
    Calls Tryz.prog 100 #[.slice a len cap] w fun e w' => ∃ v, e = .returned (.tuple #[.int .i64 (P.kdV l), v, .int .i64 (P.kdErr l)]) ∧ OV w' w.heap.size 92 4 v (P.kdL l).length (qCs (P.kdL l)) ∧ Below w.heap.size w w' := by
  by_cases he : P.openErr l = 0
  case neg =>
    have e1 : P.kdErr l = P.openErr l := by unfold P.kdErr; rw [if_pos he]
    have e2 : P.kdL l = [] := by unfold P.kdL; rw [if_neg (by omega)]
    have e3 : P.kdV l = 0 := by unfold P.kdV; rw [if_neg (by omega)]
    rw [e1, e2, e3]
    exact (kids_open a len cap l w hr hc he).mono fun e w' ⟨h1, h2⟩ => ⟨_, h1, OV.nil _ _ _ _, h2⟩
  by_cases hf : (P.openKind l = 2 ∧ 1 ≤ P.openLevel l ∧ P.openLevel l ≤ 32)
  case neg =>
    have e1 : P.kdErr l = 4 := by unfold P.kdErr; rw [if_neg (by simpa using he), if_neg (fun h => hf ⟨h.1, h.2.1, h.2.2.1⟩)]
    have e2 : P.kdL l = [] := by unfold P.kdL; rw [if_neg (by omega)]
    have e3 : P.kdV l = 0 := by unfold P.kdV; rw [if_neg (by omega)]
    rw [e1, e2, e3]
    exact (kids_form a len cap l w hr hc he hf).mono fun e w' ⟨h1, h2⟩ => ⟨_, h1, OV.nil _ _ _ _, h2⟩
  exact kids_cells a len cap l w hr hc he hf.1 hf.2.1 hf.2.2
end Go.Proofs.YtnjpaanjgbfbaaaGreat
/- The walks of chapter 8: Text, Bytes, and the reference's. Printed by gen_clt.py. -/
namespace Go.Proofs.YtnjpaanjgbfbaaaGreat
set_option linter.unusedVariables false
set_option linter.unusedSimpArgs false
open Go.RowKit

theorem tx_bad {l : List UInt8} (h : P.openErr l = 0) (hn : ¬ P.goodT l) : P.txErr l = 4 ∧ P.txL l = [] := by
  have e : P.txErr l = 4 := by unfold P.txErr; rw [if_neg (by simpa using h), if_neg hn]
  exact ⟨e, by unfold P.txL; rw [if_neg (by omega)]⟩
theorem tx_open {l : List UInt8} (h : P.openErr l ≠ 0) : P.txErr l = P.openErr l ∧ P.txL l = [] := by
  have e : P.txErr l = P.openErr l := by unfold P.txErr; rw [if_pos h]
  exact ⟨e, by unfold P.txL; rw [if_neg (by omega)]⟩
theorem tx_good {l : List UInt8} (h : P.openErr l = 0) (hn : P.goodT l) : P.txErr l = 0 ∧ P.txL l = (P.openBody l).take (P.openCount l) := by
  have e : P.txErr l = 0 := by unfold P.txErr; rw [if_neg (by simpa using h), if_pos hn]
  exact ⟨e, by unfold P.txL; rw [if_pos e]⟩
/-- What Text tells: a slice that reads as the text. -/
def TextEnd (w : World) (l : List UInt8) (e : Ending) (w' : World) : Prop :=
  ∃ a n c, e = .returned (.tuple #[.slice a n c, .int .i64 (P.txErr l)]) ∧ Rd w' a n (P.txL l) ∧ n ≤ c ∧ (∀ p, a = some p → w.heap.size ≤ p.block) ∧ Below w.heap.size w w'
theorem TextEnd.empty {w w' : World} {l : List UInt8} {E : Int} (h : P.txErr l = E ∧ P.txL l = []) (hb : Below w.heap.size w w') : TextEnd w l (.returned (.tuple #[.slice none 0 0, .int .i64 E])) w' :=
  ⟨Option.none, 0, 0, by rw [h.1], by rw [h.2]; exact Rd.nil _ _, Nat.le_refl _, (fun p hp => by cases hp), hb⟩
set_option maxRecDepth 100000 in
set_option maxHeartbeats 1600000 in
theorem rbytes_fun (a : Option Addr) (n ca : Nat) (t : List UInt8) (w : World) (hr : Rd w a n t) :
    Calls Tryz.prog 20 #[.slice a n ca] w fun e w' => ∃ v, e = .returned (.tuple #[v, .int .i64 (P.txtErr t)]) ∧ OB w' w.heap.size v (P.txtB t) ∧ Below w.heap.size w w' := by
  have hln := hr.1
  by_cases hlen : 1 ≤ n ∧ n ≤ 248
  case neg =>
    have e1 : P.txtErr t = 1 := by unfold P.txtErr; rw [if_neg (by omega)]
    have e2 : P.txtB t = [] := by unfold P.txtB; rw [if_neg (by omega)]
    rw [e1, e2]
    clear hr e1 e2 hln
    go_enter Tryz.func20, Tryz.ntmps20
    go_wp2
    all_goals
      first
        | (exfalso; omega)
        | (go_ret2; exact ⟨_, rfl, OB.nil _ _, Below.refl _ _⟩)
  case pos =>
    obtain ⟨hl1, hl2⟩ := hlen
    have e1 : P.txtErr t = 0 := by unfold P.txtErr; rw [if_pos (by omega)]
    have e3 := P.seal_txt t e1
    rw [hln] at e3
    have e2 : P.txtB t = P.sealB 4 0 n t := by unfold P.txtB P.sealB; rw [if_pos e1]; rw [hln, if_pos e3]; simp
    have HS := rseal_fun 4 0 n a n ca t w hr
    rw [show P.sealErr 4 0 (n : Nat) t.length = 0 by rw [hln]; exact e3] at HS
    rw [e1, e2]
    have HS := Lib.hid HS
    have c1 : decide ((n : Int) < 1) = false := decide_eq_false (by omega)
    have c2 : decide (248 < (n : Int)) = false := decide_eq_false (by omega)
    generalize P.sealB 4 0 n t = K at *
    clear hr e1 e2 e3 hln
    go_enter Tryz.func20, Tryz.ntmps20
    go_wp2_with fail
    refine HS.out.mono ?_
    rintro e w1 ⟨v, rfl, ho, hb⟩
    go_wp2
    go_ret2
    exact ⟨_, rfl, ho, hb⟩
set_option maxRecDepth 100000 in
set_option maxHeartbeats 1600000 in
theorem text_open (a : Option Addr) (len cap : Nat) (l : List UInt8) (w : World) (hr : Rd w a len l) (hc : len ≤ cap) (he : P.openErr l ≠ 0) :
    Calls Tryz.prog 105 #[.slice a len cap] w fun e w' => e = .returned (.tuple #[.slice none 0 0, .int .i64 (P.openErr l)]) ∧ Below w.heap.size w w' := by
  have c1 : (P.openErr l != 0) = true := by simpa using he
  have HO := Lib.hid (open_fun a len cap l w hr hc)
  generalize P.openErr l = E at *
  clear hr he
  go_enter Tryz.func105, Tryz.ntmps105
  go_wp2_with fail
  refine HO.out.mono ?_
  rintro e w1 ⟨v, rfl, hown, hb1⟩
  obtain ⟨av, pv, hv, -, -, -, -⟩ := hown.form
  subst hv
  clear hown
  go_wp2
  go_ret2
  exact ⟨rfl, hb1.alloc hb1.size _⟩
set_option maxRecDepth 100000 in
set_option maxHeartbeats 1600000 in
theorem text_form (a : Option Addr) (len cap : Nat) (l : List UInt8) (w : World) (hr : Rd w a len l) (hc : len ≤ cap) (he : P.openErr l = 0) (hf : ¬ (P.openKind l = 4 ∧ P.openLevel l = 0 ∧ 1 ≤ P.openCount l ∧ P.openCount l ≤ 248)) :
    Calls Tryz.prog 105 #[.slice a len cap] w fun e w' => e = .returned (.tuple #[.slice none 0 0, .int .i64 4]) ∧ Below w.heap.size w w' := by
  have HO := open_fun a len cap l w hr hc
  rw [he, show P.oK l = ((P.openKind l : Nat) : Int) by simp [P.oK, he], show P.oL l = ((P.openLevel l : Nat) : Int) by simp [P.oL, he], show P.oC l = ((P.openCount l : Nat) : Int) by simp [P.oC, he], show P.oB l = P.openBody l by simp [P.oB, he]] at HO
  have HO := Lib.hid HO
  have hBl := clbody_length he
  generalize P.openBody l = BD at *
  generalize P.openKind l = kk at *
  generalize P.openLevel l = lv at *
  generalize P.openCount l = ct at *
  clear hr he
  go_enter Tryz.func105, Tryz.ntmps105
  go_wp2_with fail
  refine HO.out.mono ?_
  rintro e w1 ⟨v, rfl, hown, hb1⟩
  obtain ⟨ga, pv, hv, hga, -, hr1, hpv⟩ := hown.pos (by omega)
  rw [hBl] at hv hr1 hpv
  subst hv
  have HR1 := Lib.hid hr1
  clear hown hr1
  have hb2 : Below w1.heap.size w1 (w1.alloc (.cells #[.int .i64 (kk : Nat), .int .i64 (lv : Nat), .int .i64 (ct : Nat), .slice (some ⟨ga, 0, none⟩) 248 pv] 89)) := (Below.refl _ w1).alloc (Nat.le_refl _) _
  have hk2 : (w1.alloc (.cells #[.int .i64 (kk : Nat), .int .i64 (lv : Nat), .int .i64 (ct : Nat), .slice (some ⟨ga, 0, none⟩) 248 pv] 89)).heap[w1.heap.size]? = _ := alloc_new _ _ _ rfl
  by_cases d1 : (kk : Int) = 4 <;> by_cases d2 : (lv : Int) = 0 <;> by_cases d3 : (ct : Int) < 1 <;> by_cases d4 : 248 < (ct : Int)
  all_goals
    first
      | (exfalso; omega)
      | (go_wp2_with fail
         all_goals
           first
             | (exfalso; omega)
             | (go_ret2; exact ⟨rfl, hb1.alloc hb1.size _⟩))
set_option maxRecDepth 100000 in
set_option maxHeartbeats 1600000 in
theorem text_tail (a : Option Addr) (len cap : Nat) (l : List UInt8) (w : World) (hr : Rd w a len l) (hc : len ≤ cap) (he : P.openErr l = 0) (hk : P.openKind l = 4) (hv : P.openLevel l = 0) (h1 : 1 ≤ P.openCount l) (h2 : P.openCount l ≤ 248) (hz : P.zeros ((P.openBody l).drop (P.openCount l)) = false) :
    Calls Tryz.prog 105 #[.slice a len cap] w fun e w' => e = .returned (.tuple #[.slice none 0 0, .int .i64 4]) ∧ Below w.heap.size w w' := by
  have HO := open_fun a len cap l w hr hc
  rw [he, show P.oK l = ((P.openKind l : Nat) : Int) by simp [P.oK, he], show P.oL l = ((P.openLevel l : Nat) : Int) by simp [P.oL, he], show P.oC l = ((P.openCount l : Nat) : Int) by simp [P.oC, he], show P.oB l = P.openBody l by simp [P.oB, he]] at HO
  have HO := Lib.hid HO
  have hBl := clbody_length he
  generalize P.openBody l = BD at *
  generalize P.openKind l = kk at *
  generalize P.openLevel l = lv at *
  generalize P.openCount l = ct at *
  have t1 : ((kk : Int) != 4) = false := by simp [hk]
  have t2 : ((lv : Int) != 0) = false := by simp [hv]
  have c1 : decide ((ct : Int) < 1) = false := decide_eq_false (by omega)
  have c2 : decide (248 < (ct : Int)) = false := decide_eq_false (by omega)
  have i1 : (0 : Int) ≤ (ct : Int) := by omega
  have i2 : (ct : Int) ≤ 248 := by omega
  clear hk hv
  clear hr he
  go_enter Tryz.func105, Tryz.ntmps105
  go_wp2_with fail
  refine HO.out.mono ?_
  rintro e w1 ⟨v, rfl, hown, hb1⟩
  obtain ⟨ga, pv, hv, hga, -, hr1, hpv⟩ := hown.pos (by omega)
  rw [hBl] at hv hr1 hpv
  subst hv
  have HR1 := Lib.hid hr1
  clear hown hr1
  have hb2 : Below w1.heap.size w1 (w1.alloc (.cells #[.int .i64 (kk : Nat), .int .i64 (lv : Nat), .int .i64 (ct : Nat), .slice (some ⟨ga, 0, none⟩) 248 pv] 89)) := (Below.refl _ w1).alloc (Nat.le_refl _) _
  have hk2 : (w1.alloc (.cells #[.int .i64 (kk : Nat), .int .i64 (lv : Nat), .int .i64 (ct : Nat), .slice (some ⟨ga, 0, none⟩) 248 pv] 89)).heap[w1.heap.size]? = _ := alloc_new _ _ _ rfl
  rcases Nat.lt_or_ge ct pv with hlg | hlg
  case inl =>
    have hcap : ¬ pv = ct := by omega
    have i4 : (ct : Int) ≤ (pv : Int) := by omega
    have hd : Rd (w1.alloc (.cells #[.int .i64 (kk : Nat), .int .i64 (lv : Nat), .int .i64 (ct : Nat), .slice (some ⟨ga, 0, none⟩) 248 pv] 89)) (some ⟨ga, ct, none⟩) (248 - ct) (BD.drop ct) := by
      have h := (HR1.out.below hb2).drop ct
      rwa [add_lit _ ct (by omega), Nat.zero_add] at h
    have HD := Lib.hid hd
    clear hd
    go_wp2_with fail
    generalize (w1.alloc (.cells #[.int .i64 (kk : Nat), .int .i64 (lv : Nat), .int .i64 (ct : Nat), .slice (some ⟨ga, 0, none⟩) 248 pv] 89)) = w2 at *
    have hbb2 := below_then hb1 hb2 hb1.size
    have HR2 := Lib.hid (HR1.out.below hb2)
    have gp := cell_blk hk2
    clear hk2
    refine (cnoughts_any _ _ _ (BD.drop ct) _ HD.out).mono ?_
    rw [hz]
    rintro e w4 ⟨rfl, rfl⟩
    go_wp2
    go_ret2
    exact ⟨rfl, hbb2⟩
  case inr =>
    obtain rfl : pv = ct := by omega
    have hd : Rd (w1.alloc (.cells #[.int .i64 (kk : Nat), .int .i64 (lv : Nat), .int .i64 (pv : Nat), .slice (some ⟨ga, 0, none⟩) 248 pv] 89)) (some ⟨ga, 0, none⟩) 0 (BD.drop pv) := by
      have e : BD.drop pv = [] := List.drop_eq_nil_of_le (by omega)
      rw [e]
      exact Rd.nil _ _
    have HD := Lib.hid hd
    clear hd
    go_wp2_with fail
    generalize (w1.alloc (.cells #[.int .i64 (kk : Nat), .int .i64 (lv : Nat), .int .i64 (pv : Nat), .slice (some ⟨ga, 0, none⟩) 248 pv] 89)) = w2 at *
    have hbb2 := below_then hb1 hb2 hb1.size
    have HR2 := Lib.hid (HR1.out.below hb2)
    have gp := cell_blk hk2
    clear hk2
    refine (cnoughts_any _ _ _ (BD.drop pv) _ HD.out).mono ?_
    rw [hz]
    rintro e w4 ⟨rfl, rfl⟩
    go_wp2
    go_ret2
    exact ⟨rfl, hbb2⟩
set_option maxRecDepth 100000 in
set_option maxHeartbeats 1600000 in
theorem text_good (a : Option Addr) (len cap : Nat) (l : List UInt8) (w : World) (hr : Rd w a len l) (hc : len ≤ cap) (he : P.openErr l = 0) (hk : P.openKind l = 4) (hv : P.openLevel l = 0) (h1 : 1 ≤ P.openCount l) (h2 : P.openCount l ≤ 248) (hz : P.zeros ((P.openBody l).drop (P.openCount l)) = true) :
    Calls Tryz.prog 105 #[.slice a len cap] w fun e w' => ∃ a c, e = .returned (.tuple #[.slice a (P.openCount l) c, .int .i64 0]) ∧ Rd w' a (P.openCount l) ((P.openBody l).take (P.openCount l)) ∧ P.openCount l ≤ c ∧ (∀ p, a = some p → w.heap.size ≤ p.block) ∧ Below w.heap.size w w' := by
  have HO := open_fun a len cap l w hr hc
  rw [he, show P.oK l = ((P.openKind l : Nat) : Int) by simp [P.oK, he], show P.oL l = ((P.openLevel l : Nat) : Int) by simp [P.oL, he], show P.oC l = ((P.openCount l : Nat) : Int) by simp [P.oC, he], show P.oB l = P.openBody l by simp [P.oB, he]] at HO
  have HO := Lib.hid HO
  have hBl := clbody_length he
  generalize P.openBody l = BD at *
  generalize P.openKind l = kk at *
  generalize P.openLevel l = lv at *
  generalize P.openCount l = ct at *
  have t1 : ((kk : Int) != 4) = false := by simp [hk]
  have t2 : ((lv : Int) != 0) = false := by simp [hv]
  have c1 : decide ((ct : Int) < 1) = false := decide_eq_false (by omega)
  have c2 : decide (248 < (ct : Int)) = false := decide_eq_false (by omega)
  have i1 : (0 : Int) ≤ (ct : Int) := by omega
  have i2 : (ct : Int) ≤ 248 := by omega
  clear hk hv
  clear hr he
  go_enter Tryz.func105, Tryz.ntmps105
  go_wp2_with fail
  refine HO.out.mono ?_
  rintro e w1 ⟨v, rfl, hown, hb1⟩
  obtain ⟨ga, pv, hv, hga, -, hr1, hpv⟩ := hown.pos (by omega)
  rw [hBl] at hv hr1 hpv
  subst hv
  have HR1 := Lib.hid hr1
  clear hown hr1
  have hb2 : Below w1.heap.size w1 (w1.alloc (.cells #[.int .i64 (kk : Nat), .int .i64 (lv : Nat), .int .i64 (ct : Nat), .slice (some ⟨ga, 0, none⟩) 248 pv] 89)) := (Below.refl _ w1).alloc (Nat.le_refl _) _
  have hk2 : (w1.alloc (.cells #[.int .i64 (kk : Nat), .int .i64 (lv : Nat), .int .i64 (ct : Nat), .slice (some ⟨ga, 0, none⟩) 248 pv] 89)).heap[w1.heap.size]? = _ := alloc_new _ _ _ rfl
  rcases Nat.lt_or_ge ct pv with hlg | hlg
  case inl =>
    have hcap : ¬ pv = ct := by omega
    have i4 : (ct : Int) ≤ (pv : Int) := by omega
    have hd : Rd (w1.alloc (.cells #[.int .i64 (kk : Nat), .int .i64 (lv : Nat), .int .i64 (ct : Nat), .slice (some ⟨ga, 0, none⟩) 248 pv] 89)) (some ⟨ga, ct, none⟩) (248 - ct) (BD.drop ct) := by
      have h := (HR1.out.below hb2).drop ct
      rwa [add_lit _ ct (by omega), Nat.zero_add] at h
    have HD := Lib.hid hd
    clear hd
    go_wp2_with fail
    generalize (w1.alloc (.cells #[.int .i64 (kk : Nat), .int .i64 (lv : Nat), .int .i64 (ct : Nat), .slice (some ⟨ga, 0, none⟩) 248 pv] 89)) = w2 at *
    have hbb2 := below_then hb1 hb2 hb1.size
    have HR2 := Lib.hid (HR1.out.below hb2)
    have gp := cell_blk hk2
    clear hk2
    refine (cnoughts_any _ _ _ (BD.drop ct) _ HD.out).mono ?_
    rw [hz]
    rintro e w4 ⟨rfl, rfl⟩
    go_wp2
    go_ret2
    exact ⟨some ⟨ga, 0, none⟩, _, rfl, HR2.out.take ct (by omega), by omega, (fun p hp => by cases hp; exact hga), hbb2⟩
  case inr =>
    obtain rfl : pv = ct := by omega
    have hd : Rd (w1.alloc (.cells #[.int .i64 (kk : Nat), .int .i64 (lv : Nat), .int .i64 (pv : Nat), .slice (some ⟨ga, 0, none⟩) 248 pv] 89)) (some ⟨ga, 0, none⟩) 0 (BD.drop pv) := by
      have e : BD.drop pv = [] := List.drop_eq_nil_of_le (by omega)
      rw [e]
      exact Rd.nil _ _
    have HD := Lib.hid hd
    clear hd
    go_wp2_with fail
    generalize (w1.alloc (.cells #[.int .i64 (kk : Nat), .int .i64 (lv : Nat), .int .i64 (pv : Nat), .slice (some ⟨ga, 0, none⟩) 248 pv] 89)) = w2 at *
    have hbb2 := below_then hb1 hb2 hb1.size
    have HR2 := Lib.hid (HR1.out.below hb2)
    have gp := cell_blk hk2
    clear hk2
    refine (cnoughts_any _ _ _ (BD.drop pv) _ HD.out).mono ?_
    rw [hz]
    rintro e w4 ⟨rfl, rfl⟩
    go_wp2
    go_ret2
    exact ⟨some ⟨ga, 0, none⟩, _, rfl, HR2.out.take pv (by omega), by omega, (fun p hp => by cases hp; exact hga), hbb2⟩
theorem text_fun (a : Option Addr) (len cap : Nat) (l : List UInt8) (w : World) (hr : Rd w a len l) (hc : len ≤ cap) : Calls Tryz.prog 105 #[.slice a len cap] w fun e w' => TextEnd w l e w' := by
  by_cases he : P.openErr l = 0
  case neg => exact (text_open a len cap l w hr hc he).mono fun e w' ⟨h1, h2⟩ => by subst h1; exact TextEnd.empty (tx_open he) h2
  by_cases hf : P.openKind l = 4 ∧ P.openLevel l = 0 ∧ 1 ≤ P.openCount l ∧ P.openCount l ≤ 248
  case neg => exact (text_form a len cap l w hr hc he hf).mono fun e w' ⟨h1, h2⟩ => by subst h1; exact TextEnd.empty (tx_bad he (fun h => hf ⟨h.1, h.2.1, h.2.2.1, h.2.2.2.1⟩)) h2
  obtain ⟨hk, hv, h1, h2⟩ := hf
  rcases hz : P.zeros ((P.openBody l).drop (P.openCount l)) with _ | _
  · exact (text_tail a len cap l w hr hc he hk hv h1 h2 hz).mono fun e w' ⟨h1, h2⟩ => by subst h1; exact TextEnd.empty (tx_bad he (fun h => by have := h.2.2.2.2; rw [hz] at this; cases this)) h2
  · obtain ⟨g1, g2⟩ := tx_good he ⟨hk, hv, h1, h2, hz⟩
    exact (text_good a len cap l w hr hc he hk hv h1 h2 hz).mono fun e w' ⟨a', c', h1, h2, h3, h4, h5⟩ => ⟨a', _, c', by rw [h1, g1], by rw [g2]; exact h2, h3, h4, h5⟩
set_option maxRecDepth 100000 in
set_option maxHeartbeats 1600000 in
theorem rtext_open (a : Option Addr) (len cap : Nat) (l : List UInt8) (w : World) (hr : Rd w a len l) (hc : len ≤ cap) (he : P.openErr l ≠ 0) :
    Calls Tryz.prog 95 #[.slice a len cap] w fun e w' => e = .returned (.tuple #[.slice none 0 0, .int .i64 (P.openErr l)]) ∧ Below w.heap.size w w' := by
  have c1 : (P.openErr l != 0) = true := by simpa using he
  have HO := Lib.hid (ropen_fun a len cap l w hr hc)
  generalize P.openErr l = E at *
  clear hr he
  go_enter Tryz.func95, Tryz.ntmps95
  go_wp2_with fail
  refine HO.out.mono ?_
  rintro e w1 ⟨v, rfl, hown, hb1⟩
  obtain ⟨av, pv, hv, -, -, -, -⟩ := hown.form
  subst hv
  clear hown
  go_wp2
  go_ret2
  exact ⟨rfl, hb1.alloc hb1.size _⟩
set_option maxRecDepth 100000 in
set_option maxHeartbeats 1600000 in
theorem rtext_form (a : Option Addr) (len cap : Nat) (l : List UInt8) (w : World) (hr : Rd w a len l) (hc : len ≤ cap) (he : P.openErr l = 0) (hf : ¬ (P.openKind l = 4 ∧ P.openLevel l = 0 ∧ 1 ≤ P.openCount l ∧ P.openCount l ≤ 248)) :
    Calls Tryz.prog 95 #[.slice a len cap] w fun e w' => e = .returned (.tuple #[.slice none 0 0, .int .i64 4]) ∧ Below w.heap.size w w' := by
  have HO := ropen_fun a len cap l w hr hc
  rw [he, show P.oK l = ((P.openKind l : Nat) : Int) by simp [P.oK, he], show P.oL l = ((P.openLevel l : Nat) : Int) by simp [P.oL, he], show P.oC l = ((P.openCount l : Nat) : Int) by simp [P.oC, he], show P.oB l = P.openBody l by simp [P.oB, he]] at HO
  have HO := Lib.hid HO
  have hBl := clbody_length he
  generalize P.openBody l = BD at *
  generalize P.openKind l = kk at *
  generalize P.openLevel l = lv at *
  generalize P.openCount l = ct at *
  clear hr he
  go_enter Tryz.func95, Tryz.ntmps95
  go_wp2_with fail
  refine HO.out.mono ?_
  rintro e w1 ⟨v, rfl, hown, hb1⟩
  obtain ⟨ga, pv, hv, hga, -, hr1, hpv⟩ := hown.pos (by omega)
  rw [hBl] at hv hr1 hpv
  subst hv
  have HR1 := Lib.hid hr1
  clear hown hr1
  have hb2 : Below w1.heap.size w1 (w1.alloc (.cells #[.int .i64 (kk : Nat), .int .i64 (lv : Nat), .int .i64 (ct : Nat), .slice (some ⟨ga, 0, none⟩) 248 pv] 89)) := (Below.refl _ w1).alloc (Nat.le_refl _) _
  have hk2 : (w1.alloc (.cells #[.int .i64 (kk : Nat), .int .i64 (lv : Nat), .int .i64 (ct : Nat), .slice (some ⟨ga, 0, none⟩) 248 pv] 89)).heap[w1.heap.size]? = _ := alloc_new _ _ _ rfl
  by_cases d1 : (kk : Int) = 4 <;> by_cases d2 : (lv : Int) = 0 <;> by_cases d3 : (ct : Int) < 1 <;> by_cases d4 : 248 < (ct : Int)
  all_goals
    first
      | (exfalso; omega)
      | (go_wp2_with fail
         all_goals
           first
             | (exfalso; omega)
             | (go_ret2; exact ⟨rfl, hb1.alloc hb1.size _⟩))
set_option maxRecDepth 100000 in
set_option maxHeartbeats 1600000 in
theorem rtext_tail (a : Option Addr) (len cap : Nat) (l : List UInt8) (w : World) (hr : Rd w a len l) (hc : len ≤ cap) (he : P.openErr l = 0) (hk : P.openKind l = 4) (hv : P.openLevel l = 0) (h1 : 1 ≤ P.openCount l) (h2 : P.openCount l ≤ 248) (hz : P.zeros ((P.openBody l).drop (P.openCount l)) = false) :
    Calls Tryz.prog 95 #[.slice a len cap] w fun e w' => e = .returned (.tuple #[.slice none 0 0, .int .i64 4]) ∧ Below w.heap.size w w' := by
  have HO := ropen_fun a len cap l w hr hc
  rw [he, show P.oK l = ((P.openKind l : Nat) : Int) by simp [P.oK, he], show P.oL l = ((P.openLevel l : Nat) : Int) by simp [P.oL, he], show P.oC l = ((P.openCount l : Nat) : Int) by simp [P.oC, he], show P.oB l = P.openBody l by simp [P.oB, he]] at HO
  have HO := Lib.hid HO
  have hBl := clbody_length he
  generalize P.openBody l = BD at *
  generalize P.openKind l = kk at *
  generalize P.openLevel l = lv at *
  generalize P.openCount l = ct at *
  have t1 : ((kk : Int) != 4) = false := by simp [hk]
  have t2 : ((lv : Int) != 0) = false := by simp [hv]
  have c1 : decide ((ct : Int) < 1) = false := decide_eq_false (by omega)
  have c2 : decide (248 < (ct : Int)) = false := decide_eq_false (by omega)
  have i1 : (0 : Int) ≤ (ct : Int) := by omega
  have i2 : (ct : Int) ≤ 248 := by omega
  clear hk hv
  clear hr he
  go_enter Tryz.func95, Tryz.ntmps95
  go_wp2_with fail
  refine HO.out.mono ?_
  rintro e w1 ⟨v, rfl, hown, hb1⟩
  obtain ⟨ga, pv, hv, hga, -, hr1, hpv⟩ := hown.pos (by omega)
  rw [hBl] at hv hr1 hpv
  subst hv
  have HR1 := Lib.hid hr1
  clear hown hr1
  have hb2 : Below w1.heap.size w1 (w1.alloc (.cells #[.int .i64 (kk : Nat), .int .i64 (lv : Nat), .int .i64 (ct : Nat), .slice (some ⟨ga, 0, none⟩) 248 pv] 89)) := (Below.refl _ w1).alloc (Nat.le_refl _) _
  have hk2 : (w1.alloc (.cells #[.int .i64 (kk : Nat), .int .i64 (lv : Nat), .int .i64 (ct : Nat), .slice (some ⟨ga, 0, none⟩) 248 pv] 89)).heap[w1.heap.size]? = _ := alloc_new _ _ _ rfl
  go_wp2_with fail
  generalize (w1.alloc (.cells #[.int .i64 (kk : Nat), .int .i64 (lv : Nat), .int .i64 (ct : Nat), .slice (some ⟨ga, 0, none⟩) 248 pv] 89)) = w2 at *
  have hbb2 := below_then hb1 hb2 hb1.size
  have HR2 := Lib.hid (HR1.out.below hb2)
  have gp := cell_blk hk2
  clear hk2
  refine (rzeros_any _ _ _ BD ct _ HR2.out (by omega)).mono ?_
  rw [hz]
  rintro e w4 ⟨rfl, rfl⟩
  go_wp2
  go_ret2
  exact ⟨rfl, hbb2⟩
set_option maxRecDepth 100000 in
set_option maxHeartbeats 1600000 in
theorem rtext_good (a : Option Addr) (len cap : Nat) (l : List UInt8) (w : World) (hr : Rd w a len l) (hc : len ≤ cap) (he : P.openErr l = 0) (hk : P.openKind l = 4) (hv : P.openLevel l = 0) (h1 : 1 ≤ P.openCount l) (h2 : P.openCount l ≤ 248) (hz : P.zeros ((P.openBody l).drop (P.openCount l)) = true) :
    Calls Tryz.prog 95 #[.slice a len cap] w fun e w' => ∃ a c, e = .returned (.tuple #[.slice a (P.openCount l) c, .int .i64 0]) ∧ Rd w' a (P.openCount l) ((P.openBody l).take (P.openCount l)) ∧ P.openCount l ≤ c ∧ (∀ p, a = some p → w.heap.size ≤ p.block) ∧ Below w.heap.size w w' := by
  have HO := ropen_fun a len cap l w hr hc
  rw [he, show P.oK l = ((P.openKind l : Nat) : Int) by simp [P.oK, he], show P.oL l = ((P.openLevel l : Nat) : Int) by simp [P.oL, he], show P.oC l = ((P.openCount l : Nat) : Int) by simp [P.oC, he], show P.oB l = P.openBody l by simp [P.oB, he]] at HO
  have HO := Lib.hid HO
  have hBl := clbody_length he
  generalize P.openBody l = BD at *
  generalize P.openKind l = kk at *
  generalize P.openLevel l = lv at *
  generalize P.openCount l = ct at *
  have t1 : ((kk : Int) != 4) = false := by simp [hk]
  have t2 : ((lv : Int) != 0) = false := by simp [hv]
  have c1 : decide ((ct : Int) < 1) = false := decide_eq_false (by omega)
  have c2 : decide (248 < (ct : Int)) = false := decide_eq_false (by omega)
  have i1 : (0 : Int) ≤ (ct : Int) := by omega
  have i2 : (ct : Int) ≤ 248 := by omega
  clear hk hv
  clear hr he
  go_enter Tryz.func95, Tryz.ntmps95
  go_wp2_with fail
  refine HO.out.mono ?_
  rintro e w1 ⟨v, rfl, hown, hb1⟩
  obtain ⟨ga, pv, hv, hga, -, hr1, hpv⟩ := hown.pos (by omega)
  rw [hBl] at hv hr1 hpv
  subst hv
  have HR1 := Lib.hid hr1
  clear hown hr1
  have hb2 : Below w1.heap.size w1 (w1.alloc (.cells #[.int .i64 (kk : Nat), .int .i64 (lv : Nat), .int .i64 (ct : Nat), .slice (some ⟨ga, 0, none⟩) 248 pv] 89)) := (Below.refl _ w1).alloc (Nat.le_refl _) _
  have hk2 : (w1.alloc (.cells #[.int .i64 (kk : Nat), .int .i64 (lv : Nat), .int .i64 (ct : Nat), .slice (some ⟨ga, 0, none⟩) 248 pv] 89)).heap[w1.heap.size]? = _ := alloc_new _ _ _ rfl
  go_wp2_with fail
  generalize (w1.alloc (.cells #[.int .i64 (kk : Nat), .int .i64 (lv : Nat), .int .i64 (ct : Nat), .slice (some ⟨ga, 0, none⟩) 248 pv] 89)) = w2 at *
  have hbb2 := below_then hb1 hb2 hb1.size
  have HR2 := Lib.hid (HR1.out.below hb2)
  have gp := cell_blk hk2
  clear hk2
  refine (rzeros_any _ _ _ BD ct _ HR2.out (by omega)).mono ?_
  rw [hz]
  rintro e w4 ⟨rfl, rfl⟩
  go_wp2
  go_ret2
  exact ⟨some ⟨ga, 0, none⟩, _, rfl, HR2.out.take ct (by omega), by omega, (fun p hp => by cases hp; exact hga), hbb2⟩
theorem rtext_fun (a : Option Addr) (len cap : Nat) (l : List UInt8) (w : World) (hr : Rd w a len l) (hc : len ≤ cap) : Calls Tryz.prog 95 #[.slice a len cap] w fun e w' => TextEnd w l e w' := by
  by_cases he : P.openErr l = 0
  case neg => exact (rtext_open a len cap l w hr hc he).mono fun e w' ⟨h1, h2⟩ => by subst h1; exact TextEnd.empty (tx_open he) h2
  by_cases hf : P.openKind l = 4 ∧ P.openLevel l = 0 ∧ 1 ≤ P.openCount l ∧ P.openCount l ≤ 248
  case neg => exact (rtext_form a len cap l w hr hc he hf).mono fun e w' ⟨h1, h2⟩ => by subst h1; exact TextEnd.empty (tx_bad he (fun h => hf ⟨h.1, h.2.1, h.2.2.1, h.2.2.2.1⟩)) h2
  obtain ⟨hk, hv, h1, h2⟩ := hf
  rcases hz : P.zeros ((P.openBody l).drop (P.openCount l)) with _ | _
  · exact (rtext_tail a len cap l w hr hc he hk hv h1 h2 hz).mono fun e w' ⟨h1, h2⟩ => by subst h1; exact TextEnd.empty (tx_bad he (fun h => by have := h.2.2.2.2; rw [hz] at this; cases this)) h2
  · obtain ⟨g1, g2⟩ := tx_good he ⟨hk, hv, h1, h2, hz⟩
    exact (rtext_good a len cap l w hr hc he hk hv h1 h2 hz).mono fun e w' ⟨a', c', h1, h2, h3, h4, h5⟩ => ⟨a', _, c', by rw [h1, g1], by rw [g2]; exact h2, h3, h4, h5⟩
end Go.Proofs.YtnjpaanjgbfbaaaGreat
/- Arguments that came in: a slice of pieces, of kids. -/
namespace Go.Proofs.YtnjpaanjgbfbaaaGreat
set_option linter.unusedVariables false
set_option linter.unusedSimpArgs false
open Go.Deep Go.ChangeShapes Go.WideShapes Go.ChangeAt Go.RowKit Go.Joins

instance : Inhabited P.Q := ⟨⟨0, 0, 0, 0⟩⟩

theorem list4 {α : Type} {cs : List α} (h : cs.length = 4) : ∃ c0 c1 c2 c3, cs = [c0, c1, c2, c3] := by
  match cs, h with
  | [c0, c1, c2, c3], _ => exact ⟨c0, c1, c2, c3, rfl⟩
end Go.Proofs.YtnjpaanjgbfbaaaGreat
