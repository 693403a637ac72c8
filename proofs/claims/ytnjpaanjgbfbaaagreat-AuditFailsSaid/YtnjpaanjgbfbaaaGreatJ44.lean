/- The law of chapter 12: reports that are the same. -/
import Derived.Test.YtnjpaanjgbfbaaaGreatJ43
import Derived.Test.YtnjpaanjgbfbaaaGreatJ13
import Derived.Laws.StructEq
namespace Go.Proofs.YtnjpaanjgbfbaaaGreat
set_option linter.unusedVariables false
set_option linter.unusedSimpArgs false
open Go.RowKit

/-- The rows of a report, read. -/
structure RepRd (w : World) (ps : List P.Q) (tx sl : List UInt8) (gs : List Int) (aP aT aS aG : Option Addr) : Prop where
  p : RQ w aP ps.length ps
  t : Rd w aT tx.length tx
  s : Rd w aS sl.length sl
  g : RV w aG gs.length 1 (ivs gs)
theorem RepRd.below {w w' : World} {ps : List P.Q} {tx sl : List UInt8} {gs : List Int} {aP aT aS aG : Option Addr} (h : RepRd w ps tx sl gs aP aT aS aG) (hb : Below w.heap.size w w') : RepRd w' ps tx sl gs aP aT aS aG :=
  ⟨RV.below h.p hb, h.t.below hb, h.s.below hb, h.g.below hb⟩
/-- A report's rows, of the program's or of the reference's. -/
theorem RepIs.rd {w : World} {B np : Nat} {st : P.St} {sl : List UInt8} {vP vT vS vG : Value} (h : RepIs w B np st sl vP vT vS vG) :
    ∃ aP cP aT cT aS cS aG cG, vP = .slice aP st.ps.length cP ∧ vT = .slice aT st.tx.length cT ∧ vS = .slice aS sl.length cS ∧ vG = .slice aG (pgsTo st np).length cG ∧ RepRd w st.ps st.tx sl (pgsTo st np) aP aT aS aG := by
  obtain ⟨r1, r2, r3, r4⟩ := h
  obtain ⟨aP, cP, rfl, hp, -⟩ := OV.form r1
  obtain ⟨aT, cT, rfl, ht, -⟩ := OB.form r2
  obtain ⟨aS, cS, rfl, hs, -⟩ := OB.form r3
  obtain ⟨aG, cG, rfl, hg, -⟩ := OV.form r4
  exact ⟨aP, cP, aT, cT, aS, cS, aG, cG, rfl, rfl, rfl, rfl, ⟨hp, ht, hs, hg⟩⟩
attribute [local irreducible] wpStill wpQuiet in
set_option maxRecDepth 100000 in
set_option maxHeartbeats 3200000 in
theorem rsame_refl (s : P.Sup) (pl h1 h2 : Int) (ps : List P.Q) (tx sl : List UInt8) (gs : List Int) (aP aT aS aG bP bT bS bG : Option Addr) (nP nT nS nG cP cT cS cG dP dT dS dG : Nat) (w : World)
    (hp : nP = ps.length) (ht : nT = tx.length) (hs : nS = sl.length) (hg : nG = gs.length) (ha : RepRd w ps tx sl gs aP aT aS aG) (hb : RepRd w ps tx sl gs bP bT bS bG) :
    Calls Tryz.prog 30 #[.agg (repR s pl (.slice aP nP cP) (.slice aT nT cT) (.slice aS nS cS) (.slice aG nG cG) h1), .agg (repR s pl (.slice bP nP dP) (.slice bT nT dT) (.slice bS nS dS) (.slice bG nG dG) h2)] w fun e w' => e = .returned (.bool true) ∧ Below w.heap.size w w' := by
  obtain ⟨w0, hw0⟩ : ∃ w0, w0 = (w.alloc (.cells (repR s pl (.slice aP nP cP) (.slice aT nT cT) (.slice aS nS cS) (.slice aG nG cG) h1) 39)).alloc (.cells (repR s pl (.slice bP nP dP) (.slice bT nT dT) (.slice bS nS dS) (.slice bG nG dG) h2) 39) := ⟨_, rfl⟩
  have hb0 : Below w.heap.size w w0 := by rw [hw0]; exact ((Below.refl _ w).alloc (Nat.le_refl _) _).alloc (by simp) _
  have k0 : w0.heap[w.heap.size]? = some (.cells (repR s pl (.slice aP nP cP) (.slice aT nT cT) (.slice aS nS cS) (.slice aG nG cG) h1) 39 (0, 0)) := by rw [hw0]; exact alloc_old (alloc_new _ _ _ rfl) _
  have k1 : w0.heap[w.heap.size + 1]? = some (.cells (repR s pl (.slice bP nP dP) (.slice bT nT dT) (.slice bS nS dS) (.slice bG nG dG) h2) 39 (0, 0)) := by rw [hw0]; exact alloc_new _ _ _ (by simp)
  have g0 := cell_blk k0
  have g1 := cell_blk k1
  have HA := Lib.hid (ha.below hb0)
  have HB := Lib.hid (hb.below hb0)
  have HS1 := Lib.hid (fun W (hW : Below w0.heap.size w0 W) => same_refl aT bT nT cT dT tx W (by rw [ht]; exact ((ha.below hb0).below hW).t) (by rw [ht]; exact ((hb.below hb0).below hW).t))
  have HS2 := Lib.hid (fun W (hW : Below w0.heap.size w0 W) => same_refl aS bS nS cS dS sl W (by rw [hs]; exact ((ha.below hb0).below hW).s) (by rw [hs]; exact ((hb.below hb0).below hW).s))
  have HB0 := Lib.hid hb0
  have HN := Lib.hid (show nP = ps.length ∧ nT = tx.length ∧ nS = sl.length ∧ nG = gs.length from ⟨hp, ht, hs, hg⟩)
  have K0 := Lib.hid k0
  have K1 := Lib.hid k1
  have mP : nP ≤ 9223372036854775807 := by have := ha.p.2.1; unfold maxLen at this; omega
  have mG : nG ≤ 9223372036854775807 := by have := ha.g.2.1; unfold maxLen at this; omega
  unfold repR at g0 g1 hw0 ⊢
  clear ha hb hb0 k0 k1 hp ht hs hg
  go_enter Tryz.func30, Tryz.ntmps30
  go_wp2_with fail
  rw [← hw0]
  clear hw0
  refine (HS1.out w0 (Below.refl _ _)).mono ?_
  rintro e w1 ⟨rfl, hb1⟩
  have g0' := cell_blk ((hb1.block _ (lt_of_block K0.out)).trans K0.out)
  have g1' := cell_blk ((hb1.block _ (lt_of_block K1.out)).trans K1.out)
  unfold repR at g0' g1'
  have HB1 := Lib.hid hb1
  clear hb1 g0 g1
  go_wp2_with fail
  refine (HS2.out w1 HB1.out).mono ?_
  rintro e w2 ⟨rfl, hb2⟩
  have HB2 := Lib.hid (HB1.out.trans (hb2.mono HB1.out.size))
  clear hb2 g0' g1'
  go_wp2_with fail
  go_loopw [5] (fun i wr => ∃ k : Nat, k ≤ nP ∧ i = .int .i64 k ∧ Below w0.heap.size w0 wr) (fun i _ => nP - (intOf i).toNat)
  case atStart => exact ⟨0, by omega, rfl, HB2.out⟩
  case round =>
    obtain ⟨k, hk, rfl, hbr⟩ := hrel
    have g0 := cell_blk ((hbr.block _ (lt_of_block K0.out)).trans K0.out)
    have g1 := cell_blk ((hbr.block _ (lt_of_block K1.out)).trans K1.out)
    unfold repR at g0 g1
    have HBR := Lib.hid hbr
    by_cases hlt : k < nP
    · have hkl : k < ps.length := by rw [← HN.out.1]; exact hlt
      obtain ⟨pa, rfl, e1, e2, e3, e4⟩ := RQ.at (HA.out.below hbr).p k hkl
      obtain ⟨pb, rfl, f1, f2, f3, f4⟩ := RQ.at (HB.out.below hbr).p k hkl
      have i0 : (0 : Int) ≤ (k : Int) := by omega
      have i1 : (k : Int) < (nP : Int) := by omega
      generalize ps[k] = x at *
      clear hbr
      go_wp2_with fail
      go_quiet (fail)
      go_wp2
      exact ⟨⟨k + 1, by omega, by go_num, below_drewN HBR.out _⟩, by simp [intOf]; omega⟩
    · obtain rfl : k = nP := by omega
      clear hbr
      go_wp2_with fail
      go_loopw [6] (fun i wr => ∃ k : Nat, k ≤ nG ∧ i = .int .i64 k ∧ Below w0.heap.size w0 wr) (fun i _ => nG - (intOf i).toNat)
      case atStart => exact ⟨0, by omega, rfl, HBR.out⟩
      case round =>
        obtain ⟨j, hj, rfl, hbr⟩ := hrel
        have g0 := cell_blk ((hbr.block _ (lt_of_block K0.out)).trans K0.out)
        have g1 := cell_blk ((hbr.block _ (lt_of_block K1.out)).trans K1.out)
        unfold repR at g0 g1
        have HBR := Lib.hid hbr
        by_cases hlt : j < nG
        · have hkl : j < (ivs gs).length := by rw [ivs_length, ← HN.out.2.2.2]; exact hlt
          obtain ⟨pa, rfl, e1⟩ := RV.at (HA.out.below hbr).g j hkl
          obtain ⟨pb, rfl, f1⟩ := RV.at (HB.out.below hbr).g j hkl
          obtain ⟨x, hx⟩ : ∃ x : Int, (ivs gs)[j] = .int .i64 x := ⟨gs[j]'(by rw [ivs_length] at hkl; exact hkl), by simp [ivs, iv]⟩
          rw [hx] at e1 f1
          have i0 : (0 : Int) ≤ (j : Int) := by omega
          have i1 : (j : Int) < (nG : Int) := by omega
          clear hbr hx
          go_wp2_with fail
          go_quiet (fail)
          go_wp2
          exact ⟨⟨j + 1, by omega, by go_num, below_drewN HBR.out _⟩, by simp [intOf]; omega⟩
        · obtain rfl : j = nG := by omega
          clear hbr
          go_wp2
          go_ret
          exact ⟨rfl, HB0.out.trans (HBR.out.mono HB0.out.size)⟩
/-- The law's Same, of a report of the program's and one of the reference's. -/
theorem lsame_refl (s : P.Sup) (pl h2 : Int) (ps : List P.Q) (tx sl : List UInt8) (gs : List Int) (aP aT aS aG bP bT bS bG : Option Addr) (nP nT nS nG cP cT cS cG dP dT dS dG : Nat) (w : World)
    (hp : nP = ps.length) (ht : nT = tx.length) (hs : nS = sl.length) (hg : nG = gs.length) (ha : RepRd w ps tx sl gs aP aT aS aG) (hb : RepRd w ps tx sl gs bP bT bS bG) :
    Calls Tryz.prog 12 #[.agg (repC s pl (.slice aP nP cP) (.slice aT nT cT) (.slice aS nS cS) (.slice aG nG cG)), .agg (repR s pl (.slice bP nP dP) (.slice bT nT dT) (.slice bS nS dS) (.slice bG nG dG) h2)] w fun e w' => e = .returned (.bool true) ∧ Below w.heap.size w w' := by
  obtain ⟨w0, hw0⟩ : ∃ w0, w0 = (w.alloc (.cells (repC s pl (.slice aP nP cP) (.slice aT nT cT) (.slice aS nS cS) (.slice aG nG cG)) 35)).alloc (.cells (repR s pl (.slice bP nP dP) (.slice bT nT dT) (.slice bS nS dS) (.slice bG nG dG) h2) 39) := ⟨_, rfl⟩
  have hb0 : Below w.heap.size w w0 := by rw [hw0]; exact ((Below.refl _ w).alloc (Nat.le_refl _) _).alloc (by simp) _
  have k0 : w0.heap[w.heap.size]? = some (.cells (repC s pl (.slice aP nP cP) (.slice aT nT cT) (.slice aS nS cS) (.slice aG nG cG)) 35 (0, 0)) := by rw [hw0]; exact alloc_old (alloc_new _ _ _ rfl) _
  have k1 : w0.heap[w.heap.size + 1]? = some (.cells (repR s pl (.slice bP nP dP) (.slice bT nT dT) (.slice bS nS dS) (.slice bG nG dG) h2) 39 (0, 0)) := by rw [hw0]; exact alloc_new _ _ _ (by simp)
  have g0 := cell_blk k0
  have g1 := cell_blk k1
  have HS := Lib.hid (rsame_refl s pl 0 h2 ps tx sl gs aP aT aS aG bP bT bS bG nP nT nS nG cP cT cS cG dP dT dS dG w0 hp ht hs hg (ha.below hb0) (hb.below hb0))
  have HB0 := Lib.hid hb0
  unfold repC at g0 hw0 ⊢
  unfold repR at g1 hw0 HS ⊢
  clear ha hb hb0 k0 k1 hp ht hs hg
  go_enter Tryz.func12, Tryz.ntmps12
  go_wp2_with fail
  rw [← hw0]
  clear hw0
  refine HS.out.mono ?_
  rintro e w1 ⟨rfl, hb1⟩
  have HB1 := Lib.hid (HB0.out.trans (hb1.mono HB0.out.size))
  clear hb1 g0 g1
  go_wp2
  go_ret
  exact ⟨rfl, HB1.out⟩
end Go.Proofs.YtnjpaanjgbfbaaaGreat
