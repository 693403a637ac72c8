/- The law of chapter 12: AuditWalks. -/
import Derived.Test.YtnjpaanjgbfbaaaJ51
import Derived.Test.YtnjpaanjgbfbaaaJ52
namespace Go.Proofs.Ytnjpaanjgbfbaaa
set_option linter.unusedVariables false
set_option linter.unusedSimpArgs false
open Go.RowKit

/-- The pages from 2 on, k of them. -/
def runI (k : Nat) : List Int := (List.range k).map fun i : Nat => ((2 + i : Nat) : Int)
theorem runI_succ (k : Nat) : runI (k + 1) = runI k ++ [((2 + k : Nat) : Int)] := by simp [runI, List.range_succ]
theorem runI_length (k : Nat) : (runI k).length = k := by simp [runI]
theorem pgs_run (A4 : Nat) (st : P.St) (h : ∀ m, 0 < st.met m ↔ 2 ≤ m ∧ m < A4) (hA : 2 ≤ A4) (k : Nat) : pgsTo st k = runI (min k A4 - 2) := by
  induction k with
  | zero => rw [show min 0 A4 - 2 = 0 by omega]; rfl
  | succ k ih =>
    rw [pgsTo_succ, ih]
    by_cases hm : 2 ≤ k ∧ k < A4
    · rw [if_pos ((h k).2 hm), show min (k + 1) A4 - 2 = (min k A4 - 2) + 1 by omega, runI_succ]
      congr 2
      omega
    · rw [if_neg (fun e => hm ((h k).1 e))]
      congr 1
      omega
theorem RV.run {w : World} {a : Option Addr} {k : Nat} (h : RV w a k 1 (ivs (runI k))) (i : Nat) (hi : i < k) : ∃ p, a = some p ∧ w.cell? (p.add i) = some (.int .i64 (2 + (i : Int))) := by
  obtain ⟨p, e, hc⟩ := RV.at h i (by rw [ivs_length, runI_length]; exact hi)
  refine ⟨p, e, ?_⟩
  rw [hc]
  simp [ivs, iv, runI]
/-- A report's rows, and where they lie. -/
structure RepAt (w : World) (B : Nat) (ps : List P.Q) (tx sl : List UInt8) (gs : List Int) (aP aT aS aG : Option Addr) : Prop where
  rd : RepRd w ps tx sl gs aP aT aS aG
  p : ∀ q, aP = some q → B ≤ q.block
  t : ∀ q, aT = some q → B ≤ q.block
  s : ∀ q, aS = some q → B ≤ q.block
  g : ∀ q, aG = some q → B ≤ q.block
theorem RepIs.rdAt {w : World} {B np : Nat} {st : P.St} {sl : List UInt8} {vP vT vS vG : Value} (h : RepIs w B np st sl vP vT vS vG) :
    ∃ aP cP aT cT aS cS aG cG, vP = .slice aP st.ps.length cP ∧ vT = .slice aT st.tx.length cT ∧ vS = .slice aS sl.length cS ∧ vG = .slice aG (pgsTo st np).length cG ∧ RepAt w B st.ps st.tx sl (pgsTo st np) aP aT aS aG := by
  obtain ⟨r1, r2, r3, r4⟩ := h
  obtain ⟨aP, cP, rfl, hp, -, qp, -⟩ := OV.form r1
  obtain ⟨aT, cT, rfl, ht, -, qt, -⟩ := OB.form r2
  obtain ⟨aS, cS, rfl, hs, -, qs, -⟩ := OB.form r3
  obtain ⟨aG, cG, rfl, hg, -, qg, -⟩ := OV.form r4
  exact ⟨aP, cP, aT, cT, aS, cS, aG, cG, rfl, rfl, rfl, rfl, ⟨hp, ht, hs, hg⟩, fun q e => (qp q e).1, fun q e => (qt q e).1, fun q e => (qs q e).1, fun q e => (qg q e).1⟩
theorem RepAt.chg {w w' : World} {B d : Nat} {ps : List P.Q} {tx sl : List UInt8} {gs : List Int} {aP aT aS aG : Option Addr} (h : RepAt w B ps tx sl gs aP aT aS aG) (hc : Chg (OnlyD d) w w') (hd : d < B) : RepAt w' B ps tx sl gs aP aT aS aG :=
  ⟨⟨RV.chg h.rd.p hc (fun q e k => by have := h.p q e; unfold OnlyD at k; omega), h.rd.t.chg hc (fun q e k => by have := h.t q e; unfold OnlyD at k; omega), h.rd.s.chg hc (fun q e k => by have := h.s q e; unfold OnlyD at k; omega), RV.chg h.rd.g hc (fun q e k => by have := h.g q e; unfold OnlyD at k; omega)⟩, h.p, h.t, h.s, h.g⟩
theorem RepAt.below {w w' : World} {B : Nat} {ps : List P.Q} {tx sl : List UInt8} {gs : List Int} {aP aT aS aG : Option Addr} (h : RepAt w B ps tx sl gs aP aT aS aG) (hb : Below w.heap.size w w') : RepAt w' B ps tx sl gs aP aT aS aG := ⟨h.rd.below hb, h.p, h.t, h.s, h.g⟩
/-- Walk with the superblock of an image that was built. -/
def BWalk (d np : Nat) (S t : List UInt8) (s : P.Sup) (I : List UInt8) (ops : Nat) (w : World) (e : Ending) (w' : World) : Prop :=
  Chg (OnlyD d) w w' ∧ ∃ st k aP cP aT nT cT aS cS aG nG cG, walkSpec (specC np I s) = some (t, st) ∧ S.length = st.ps.length ∧ nT = st.tx.length ∧ pgsTo st np = runI nG ∧ S.length + 1 ≤ nG ∧ nG + 2 ≤ np ∧ k ≤ np ∧ Dev (OnlyD d) w' d np I (ops + k) [] ∧
    e = .returned (.tuple #[.agg (repC s (-1) (.slice aP S.length cP) (.slice aT nT cT) (.slice aS t.length cS) (.slice aG nG cG)), .int .i64 0]) ∧ RepAt w' w.heap.size st.ps st.tx t (runI nG) aP aT aS aG
theorem bwalk_ok (d np : Nat) (S t : List UInt8) (s : P.Sup) (I : List UInt8) (ops : Nat) (w : World) (hB : Built np S t s I) (h : Dev (OnlyD d) w d np I ops []) (ho : ops ≤ 800000) :
    Calls Try.prog 8 #[.pointer (some ⟨d, 0, none⟩), supV s] w (BWalk d np S t s I ops w) := by
  obtain ⟨st0, A4, -, q2, q3, q4, q5, q6, q7⟩ := hB
  refine (awalk_any d np I ops s w h ho).mono ?_
  rintro e w' ⟨hc, ⟨k, hk, hD⟩, ⟨h, -⟩ | ⟨-, h, -⟩ | ⟨-, sl, st, vP, vT, vS, vG, hsp, rfl, hr0⟩⟩
  · exact absurd q7 h
  · rw [q2] at h; cases h
  · have := hsp.symm.trans q2
    simp only [Option.some.injEq, Prod.mk.injEq] at this
    obtain ⟨rfl, rfl⟩ := this
    have hrun := pgs_run A4 st q4 (by omega) np
    rw [show min np A4 = A4 by omega] at hrun
    obtain ⟨aP, cP, aT, cT, aS, cS, aG, cG, rfl, rfl, rfl, rfl, hr⟩ := hr0.rdAt
    have hl : (pgsTo st np).length = A4 - 2 := by rw [hrun, runI_length]
    have hr2 := hr
    rw [hrun] at hr2
    rw [hl]
    exact ⟨hc, st, k, aP, cP, aT, _, cT, aS, cS, aG, A4 - 2, cG, hsp, q3.symm, rfl, hrun, by omega, by omega, hk, hD, by rw [q3], hr2⟩
def BRWalk (np : Nat) (S t : List UInt8) (s : P.Sup) (I : List UInt8) (w : World) (e : Ending) (w' : World) : Prop :=
  Below w.heap.size w w' ∧ ∃ st aP cP aT nT cT aS cS aG nG cG h, walkSpec (specC np I s) = some (t, st) ∧ S.length = st.ps.length ∧ nT = st.tx.length ∧ nG = (pgsTo st np).length ∧
    e = .returned (.tuple #[.agg (repR s (-1) (.slice aP S.length cP) (.slice aT nT cT) (.slice aS t.length cS) (.slice aG nG cG) h), .int .i64 0]) ∧ RepAt w' w.heap.size st.ps st.tx t (pgsTo st np) aP aT aS aG
theorem brwalk_ok (a : Option Addr) (n c np : Nat) (S t : List UInt8) (s : P.Sup) (I : List UInt8) (w : World) (hB : Built np S t s I) (hr : Rd w a n I) (hc : n ≤ c) (hn : n = 256 * np) (h8 : 8 ≤ np) (h4 : np ≤ 4096) :
    Calls Try.prog 9 #[.slice a n c, supV s] w (BRWalk np S t s I w) := by
  obtain ⟨st0, A4, -, q2, q3, q4, q5, q6, q7⟩ := hB
  refine (rwalk_any a n c np I s w hr hc hn h8 h4).mono ?_
  rintro e w' ⟨hb, ⟨h, -⟩ | ⟨-, h, -⟩ | ⟨-, sl, st, vP, vT, vS, vG, hsp, rfl, hr⟩⟩
  · exact absurd q7 h
  · rw [rwalk_eq q7, q2] at h; cases h
  · rw [rwalk_eq q7] at hsp
    have := hsp.symm.trans q2
    simp only [Option.some.injEq, Prod.mk.injEq] at this
    obtain ⟨rfl, rfl⟩ := this
    obtain ⟨aP, cP, aT, cT, aS, cS, aG, cG, rfl, rfl, rfl, rfl, hq⟩ := hr.rdAt
    exact ⟨hb, st, aP, cP, aT, _, cT, aS, cS, aG, _, cG, s.h, hsp, q3.symm, rfl, rfl, by rw [q3], hq⟩
/-- Walk with whatever superblock, and the reference's: alike. -/
def RW2 (np : Nat) (img : List UInt8) (s : P.Sup) (w : World) (e : Ending) (w' : World) : Prop :=
  Below w.heap.size w w' ∧ ((s.chk ≠ 0 ∧ e = .returned (.tuple #[repRZ, .int .i64 1])) ∨ (s.chk = 0 ∧ walkSpec (specC np img s) = none ∧ e = .returned (.tuple #[repRZ, .int .i64 8])) ∨
   (s.chk = 0 ∧ ∃ sl st aP cP aT cT aS cS aG cG h, walkSpec (specC np img s) = some (sl, st) ∧ e = .returned (.tuple #[.agg (repR s (-1) (.slice aP st.ps.length cP) (.slice aT st.tx.length cT) (.slice aS sl.length cS) (.slice aG (pgsTo st np).length cG) h), .int .i64 0]) ∧ RepRd w' st.ps st.tx sl (pgsTo st np) aP aT aS aG))
theorem rwalk_ok (a : Option Addr) (n c np : Nat) (img : List UInt8) (s : P.Sup) (w : World) (hr : Rd w a n img) (hc : n ≤ c) (hn : n = 256 * np) (h8 : 8 ≤ np) (h4 : np ≤ 4096) :
    Calls Try.prog 9 #[.slice a n c, supV s] w (RW2 np img s w) := by
  refine (rwalk_any a n c np img s w hr hc hn h8 h4).mono ?_
  rintro e w' ⟨hb, ⟨h, rfl⟩ | ⟨hk, h, rfl⟩ | ⟨hk, sl, st, vP, vT, vS, vG, hsp, rfl, hr⟩⟩
  · exact ⟨hb, .inl ⟨h, rfl⟩⟩
  · rw [rwalk_eq hk] at h
    exact ⟨hb, .inr (.inl ⟨hk, h, rfl⟩)⟩
  · rw [rwalk_eq hk] at hsp
    obtain ⟨aP, cP, aT, cT, aS, cS, aG, cG, rfl, rfl, rfl, rfl, hq⟩ := hr.rd
    exact ⟨hb, .inr (.inr ⟨hk, sl, st, aP, cP, aT, cT, aS, cS, aG, cG, s.h, hsp, rfl, hq⟩)⟩
attribute [local irreducible] wpQuiet in
set_option maxRecDepth 100000 in
set_option maxHeartbeats 6400000 in
theorem auditWalks_walk (a0 : Option Addr) (n0 c0 : Nat) (l0 : List UInt8) (a1 : Option Addr) (n1 c1 : Nat) (l1 : List UInt8) (s : P.Sup) (w : World) (h0 : Rd w a0 n0 l0) (k0 : n0 ≤ c0) (h1 : Rd w a1 n1 l1) (k1 : n1 ≤ c1) :
    Calls Try.prog 3 #[.slice a0 n0 c0, .slice a1 n1 c1, supV s] w fun e w' => e = .returned (.bool true) ∧ Below w.heap.size w w' := by
  have H0 := Lib.hid h0
  have H1 := Lib.hid h1
  have HL0 := Lib.hid h0.1
  have HL1 := Lib.hid h1.1
  clear h0 h1
  unfold supV
  by_cases m0 : 60 < n0
  · go_enter Try.func3, Try.ntmps3
    go_wp2_with fail
    refine (awake12_any _).mono ?_
    rintro e w1 ⟨rfl, hb1⟩
    have hbb1 := below_alloc1 hb1
    have i0 : 60 < (n0 : Int) := by omega
    go_wp2
    go_ret
    exact ⟨rfl, hbb1⟩
  by_cases m1 : 300 < n1
  · go_enter Try.func3, Try.ntmps3
    go_wp2_with fail
    refine (awake12_any _).mono ?_
    rintro e w1 ⟨rfl, hb1⟩
    have hbb1 := below_alloc1 hb1
    have i0 : ¬ 60 < (n0 : Int) := by omega
    have i1 : 300 < (n1 : Int) := by omega
    go_wp2
    go_ret
    exact ⟨rfl, hbb1⟩
  have i0 : ¬ 60 < (n0 : Int) := by omega
  have i1 : ¬ 300 < (n1 : Int) := by omega
  go_enter Try.func3, Try.ntmps3
  go_wp2_with fail
  refine (awake12_any _).mono ?_
  rintro e w1 ⟨rfl, hb1'⟩
  have K1 := Lib.hid (made_below hb1')
  have hb1 := below_alloc1 hb1'
  have HB := Lib.hid (build_ok 100 l0 l1 a0 n0 c0 a1 n1 c1 4 w1 (H0.out.below hb1) (H1.out.below hb1) k1 (by omega) (by omega) (by omega) (by omega) (by unfold P.needN; omega) (by omega))
  clear hb1'
  go_wp2_with fail
  refine HB.out.mono ?_
  rintro e w2 ⟨g, t, I, hBu, rfl, him, hb2⟩
  have K2 := Lib.hid ((hb2.block _ (lt_of_block K1.out)).trans K1.out)
  have hbb2 := below_then hb1 hb2 hb1.size
  have HBU := Lib.hid hBu
  have HI2 := Lib.hid him
  clear hBu him hb2 HB
  unfold supV
  go_wp2_with fail
  have hb3 : Below w2.heap.size w2 (w2.alloc (.cells #[.int .i64 t.g, .int .i64 t.p, .int .i64 t.r, .int .i64 t.h, .int .i64 t.b, .int .i64 t.l, .int .i64 t.s, .int .i64 t.f] 24)) := (Below.refl _ w2).alloc (Nat.le_refl _) _
  have hk3 : (w2.alloc (.cells #[.int .i64 t.g, .int .i64 t.p, .int .i64 t.r, .int .i64 t.h, .int .i64 t.b, .int .i64 t.l, .int .i64 t.s, .int .i64 t.f] 24)).heap[w2.heap.size]? = _ := alloc_new _ _ _ rfl
  generalize w2.alloc (.cells #[.int .i64 t.g, .int .i64 t.p, .int .i64 t.r, .int .i64 t.h, .int .i64 t.b, .int .i64 t.l, .int .i64 t.s, .int .i64 t.f] 24) = w3 at *
  have T3 := Lib.hid hk3
  have K3 := Lib.hid ((hb3.block _ (lt_of_block K2.out)).trans K2.out)
  have hbb3 := below_then hbb2 hb3 hbb2.size
  have HI3 := Lib.hid (HI2.out.below hb3)
  have HL := Lib.hid (load_any (some ⟨g, 0, none⟩) (100 * 256) (100 * 256) 100 I w3 HI3.out.rd.1 (Nat.le_refl _) (by omega) (by omega) (by omega))
  clear hb3 hk3
  refine HL.out.mono ?_
  rintro e w4 ⟨d, rfl, hd, hD, hb4⟩
  have T4 := Lib.hid ((hb4.block _ (lt_of_block T3.out)).trans T3.out)
  have K4 := Lib.hid ((hb4.block _ (lt_of_block K3.out)).trans K3.out)
  have hbb4 := below_then hbb3 hb4 hbb3.size
  have HI4 := Lib.hid (HI3.out.below hb4)
  have HD := Lib.hid (show w3.heap.size ≤ d from hd)
  have HGD := Lib.hid (show g ≠ d by have := HI3.out.ge; omega)
  have HDLT := Lib.hid hD.lt
  have HW1 := Lib.hid (bwalk_ok d 100 l0 l1 t I 0 w4 HBU.out hD (by omega))
  unfold supV at HW1
  have gt := cell_blk T4.out
  clear hd hD hb4 HL
  go_wp2_with fail
  refine HW1.out.mono ?_
  rintro e w5 ⟨hc5, st, k, aP, cP, aT, nT, cT, aS, cS, aG, nG, cG, ho5, e1, e2, e3, e4, e5, hk, hD5, rfl, hr5⟩
  have hbb5 := below_chg hbb4 hc5 hbb4.size (fun i e => by have := HD.out; have := hbb3.size; unfold OnlyD at e; omega)
  have HI5 := Lib.hid (HI4.out.chg hc5 (fun e => HGD.out e))
  have T5 := Lib.hid ((hc5.block _ (lt_of_block T4.out) (by have := HD.out; have := lt_of_block T3.out; unfold OnlyD; omega)).trans T4.out)
  have K5 := Lib.hid ((hc5.block _ (lt_of_block K4.out) (by have := HD.out; have := lt_of_block K3.out; unfold OnlyD; omega)).trans K4.out)
  rw [HL0.out, HL1.out]
  rw [HL0.out] at e1 e4
  have HR5 := Lib.hid hr5
  have HD5 := Lib.hid hD5
  have HKK := Lib.hid hk
  have HE := Lib.hid (show n0 = st.ps.length ∧ nT = st.tx.length ∧ pgsTo st 100 = runI nG ∧ walkSpec (specC 100 I t) = some (l1, st) from ⟨e1, e2, e3, ho5⟩)
  have hg0 : n0 + 1 ≤ nG := e4
  have hg1 : nG ≤ 98 := by omega
  have HRW := Lib.hid (fun o => brwalk_ok (some ⟨g, 0, none⟩) (100 * 256) (100 * 256) 100 l0 l1 t I (w5.alloc o) HBU.out (HI5.out.below ((Below.refl _ w5).alloc (Nat.le_refl _) o)).rd.1 (Nat.le_refl _) (by omega) (by omega) (by omega))
  unfold supV at HRW
  have gt5 := cell_blk T5.out
  have lt5 := lt_of_block T5.out
  have lne5 : ¬ w2.heap.size = w5.heap.size := by omega
  unfold repC
  clear hr5 ho5 e1 e2 e3 e4 e5 hc5 hD5 hk HW1 gt
  go_wp2_with fail
  refine (HRW.out _).mono ?_
  rintro e w6 ⟨hb6, st', bP, dP, bT, mT, dT, bS, dS, bG, mG, dG, hh, ho6, e1, e2, e3, rfl, hr6⟩
  obtain rfl : st' = st := by
    have := ho6.symm.trans HE.out.2.2.2
    simp only [Option.some.injEq, Prod.mk.injEq] at this
    exact this.2
  rw [HL0.out, HL1.out]
  obtain rfl : mT = nT := by rw [e2, HE.out.2.1]
  obtain rfl : mG = nG := by rw [e3, HE.out.2.2.1, runI_length]
  rw [HE.out.2.2.1] at hr6
  have k6 := made_below hb6
  have R6 := Lib.hid k6
  have hb56 := below_alloc1 hb6
  have hbb6 := below_then hbb5 hb56 hbb5.size
  have K6 := Lib.hid ((hb56.block _ (lt_of_block K5.out)).trans K5.out)
  have HI6 := Lib.hid (HI5.out.below hb56)
  have HR56 := Lib.hid (HR5.out.below hb56)
  have HR6 := Lib.hid hr6
  have HW2 := Lib.hid (fun o => awalk_any d 100 I (0 + k) s (w6.alloc o) ((HD5.out.below hb56).below ((Below.refl _ w6).alloc (Nat.le_refl _) o)) (by have := HKK.out; omega))
  unfold supV at HW2
  unfold repR
  have gk6 := cell_blk K6.out
  have lk6 := lt_of_block K6.out
  have lnk6 : ¬ w.heap.size = w6.heap.size := by omega
  clear hb6 k6 e1 e2 e3 ho6 hr6 gt5 hb56
  go_wp2_with fail
  refine (HW2.out _).mono ?_
  rintro e w7 ⟨hc7, -, hcase⟩
  have hdl := HD5.out.lt
  have l56 : w5.heap.size < w6.heap.size := lt_of_block R6.out
  have M7 := Lib.hid ((hc7.block w6.heap.size (by simp) (by unfold OnlyD; omega)).trans (alloc_new w6 _ _ rfl))
  have R7 := Lib.hid ((hc7.block w5.heap.size (by simp; omega) (by unfold OnlyD; omega)).trans (alloc_old R6.out _))
  have K7 := Lib.hid ((hc7.block w.heap.size (by simp; omega) (by have := HD.out; have := lt_of_block K3.out; unfold OnlyD; omega)).trans (alloc_old K6.out _))
  have hbb7 := below_chg (hbb6.alloc hbb6.size _) hc7 (by have := hbb6.size; simp; omega) (fun i e => by have := HD.out; have := hbb3.size; unfold OnlyD at e; omega)
  have HI7 := Lib.hid ((HI6.out.below ((Below.refl _ w6).alloc (Nat.le_refl _) _)).chg hc7 (fun e => HGD.out e))
  have HR7a := Lib.hid ((HR56.out.below ((Below.refl _ w6).alloc (Nat.le_refl _) _)).chg hc7 HDLT.out)
  have HR7b := Lib.hid ((HR6.out.below ((Below.refl _ w6).alloc (Nat.le_refl _) _)).chg hc7 (by have := HD5.out.lt; simp; omega))
  have HSM := Lib.hid (fun wq (hb : Below w7.heap.size w7 wq) => lsame_refl t (-1) hh st'.ps st'.tx l1 (runI mG) aP aT aS aG bP bT bS bG n0 mT n1 mG cP cT cS cG dP dT dS dG wq HE.out.1 HE.out.2.1 HL1.out.symm (runI_length mG).symm (HR7a.out.rd.below hb) (HR7b.out.rd.below hb))
  unfold repC repR at HSM
  have gK7 := cell_blk K7.out
  have lK7 := lt_of_block K7.out
  have nK7 : ¬ w.heap.size = w7.heap.size := by omega
  clear gk6
  rcases hcase with ⟨hch, rfl⟩ | ⟨hch, hno, rfl⟩ | ⟨hch, sl7, st7, vP, vT, vS, vG, hsp, rfl, hr0⟩
  · have HCH := Lib.hid hch
    clear hch
    have HRW2 := Lib.hid (fun o => rwalk_ok (some ⟨g, 0, none⟩) (100 * 256) (100 * 256) 100 I s (w7.alloc o) (HI7.out.below ((Below.refl _ w7).alloc (Nat.le_refl _) o)).rd.1 (Nat.le_refl _) (by omega) (by omega) (by omega))
    unfold supV at HRW2
    unfold repZ repC P.Sup.zero
    clear hc7
    go_wp2_with fail
    refine (HRW2.out _).mono ?_
    rintro e w8 ⟨hb8, ⟨-, rfl⟩ | ⟨h2, -⟩ | ⟨h2, -⟩⟩
    rotate_left
    · exact absurd h2 HCH.out
    · exact absurd h2 HCH.out
    have P8 := Lib.hid (made_below hb8)
    have hb78 := below_alloc1 hb8
    have K8 := Lib.hid ((hb78.block _ (lt_of_block K7.out)).trans K7.out)
    have R8 := Lib.hid ((hb78.block _ (lt_of_block R7.out)).trans R7.out)
    have M8 := Lib.hid ((hb78.block _ (lt_of_block M7.out)).trans M7.out)
    have gR8 := cell_blk R8.out
    have gM8 := cell_blk M8.out
    have lR8 := lt_of_block R8.out
    have lM8 := lt_of_block M8.out
    have lP8 := lt_of_block P8.out
    have nR8 : ¬ w5.heap.size = w8.heap.size := by omega
    have nM8 : ¬ w6.heap.size = w8.heap.size := by omega
    have nP8 : ¬ w7.heap.size = w8.heap.size := by omega
    have hbb8 := below_then hbb7 hb78 hbb7.size
    unfold repRZ repR P.Sup.zero
    clear hb8
    go_wp2_with fail
    refine (HSM.out _ (hb78.trans (((Below.refl _ w8).alloc (Nat.le_refl _) _).mono hb78.size))).mono ?_
    rintro e w9 ⟨rfl, hb9⟩
    have hb89 := below_alloc1 hb9
    have R9 := Lib.hid ((hb89.block _ lR8).trans R8.out)
    have gR9 := cell_blk R9.out
    have hbb9 := below_then hbb8 hb89 hbb8.size
    have HPG := Lib.hid ((HR7a.out.rd.below (hb78.trans (hb89.mono hb78.size))).g)
    rw [runI_length] at HPG
    clear hb9 gR8 gM8
    go_wp2_with fail
    go_loopw [19, 20] (fun b i wr => ∃ j : Nat, j ≤ mG ∧ b = .int .i64 j ∧ i = .int .i64 j ∧ Below w9.heap.size w9 wr) (fun _ i _ => mG - (intOf i).toNat)
    case atStart => exact ⟨0, by omega, rfl, rfl, Below.refl _ _⟩
    case round =>
      obtain ⟨j, hj, rfl, rfl, hbr⟩ := hrel
      have gRr := cell_blk ((hbr.block _ (lt_of_block R9.out)).trans R9.out)
      have HPr := Lib.hid (RV.below HPG.out hbr)
      by_cases hlt : j < mG
      · have j1 : (j : Int) < (mG : Int) := by omega
        have jm : (mG : Int) ≤ 98 := by omega
        obtain ⟨q, rfl, hq⟩ := RV.run HPr.out j hlt
        have j3 : ¬ 2 + (j : Int) < 2 := by omega
        have j4 : ¬ 100 ≤ 2 + (j : Int) := by omega
        have jn : ((j : Int) + 1) ≤ 98 := by omega
        by_cases jz : j = 0
        · subst jz
          have hz : q.add 0 = q := by
            unfold Addr.add
            split <;> simp_all
          have hq0 : wr.cell? q = some (.int .i64 2) := by simpa [hz] using hq
          clear j3 j4 hz
          go_wp2_with fail
          go_quiet (fail)
          go_wp2
          exact ⟨⟨1, by omega, by go_num, by go_num, below_drewN hbr _⟩, by simp [intOf]; omega⟩
        · obtain ⟨J, rfl⟩ : ∃ J, j = J + 1 := ⟨j - 1, by omega⟩
          obtain ⟨q', hq', hp'⟩ := RV.run HPr.out J (by omega)
          obtain rfl : q' = q := by cases hq'; rfl
          have e1 : ((J + 1 : Nat) : Int) = (J : Int) + 1 := by omega
          rw [e1] at hq j1 j3 j4
          have j6 : 0 < (J : Int) + 1 := by omega
          have j7 : ¬ 2 + ((J : Int) + 1) ≤ 2 + (J : Int) := by omega
          have j8 : (J : Int) < (mG : Int) := by omega
          have j9 : 0 ≤ (J : Int) + 1 := by omega
          have j5 : (J : Int) + 1 - 1 = (J : Int) := by omega
          have hq2 : wr.cell? ⟨q'.block, q'.off + (J + 1), none⟩ = some (.int .i64 (2 + ((J : Int) + 1))) := by
            rw [← hq]
            unfold Addr.add
            rw [if_neg (by omega)]
          have hw1 : IntKind.i64.wrap (J : Int) = (J : Int) := IntWalk.i64_in _ (by omega)
          have hw2 : IntKind.i64.wrap ((J : Int) + 1 - 1) = (J : Int) := by rw [j5]; exact hw1
          clear hq' e1 jn
          go_wp2_with fail
          go_quiet (fail)
          go_wp2
          exact ⟨⟨J + 2, by omega, by go_num, by go_num, below_drewN hbr _⟩, by simp [intOf]; omega⟩
      · obtain rfl : j = mG := by omega
        have j1 : ¬ (j : Int) < (j : Int) := by omega
        have j2 : (n0 : Int) + 1 ≤ (j : Int) := by omega
        have j3 : (n0 : Int) ≤ 60 := by omega
        go_wp2
        go_ret
        exact ⟨rfl, below_then hbb9 hbr hbb9.size⟩
  · have HCH := Lib.hid (show s.chk = 0 ∧ walkSpec (specC 100 I s) = none from ⟨hch, hno⟩)
    clear hch hno
    have HRW2 := Lib.hid (fun o => rwalk_ok (some ⟨g, 0, none⟩) (100 * 256) (100 * 256) 100 I s (w7.alloc o) (HI7.out.below ((Below.refl _ w7).alloc (Nat.le_refl _) o)).rd.1 (Nat.le_refl _) (by omega) (by omega) (by omega))
    unfold supV at HRW2
    unfold repZ repC P.Sup.zero
    clear hc7
    go_wp2_with fail
    refine (HRW2.out _).mono ?_
    rintro e w8 ⟨hb8, ⟨h2, -⟩ | ⟨-, -, rfl⟩ | ⟨-, sl2, st2, bP2, dP2, bT2, dT2, bS2, dS2, bG2, dG2, h2, hs2, -⟩⟩
    · exact absurd HCH.out.1 h2
    rotate_left
    · rw [HCH.out.2] at hs2; cases hs2
    have P8 := Lib.hid (made_below hb8)
    have hb78 := below_alloc1 hb8
    have K8 := Lib.hid ((hb78.block _ (lt_of_block K7.out)).trans K7.out)
    have R8 := Lib.hid ((hb78.block _ (lt_of_block R7.out)).trans R7.out)
    have M8 := Lib.hid ((hb78.block _ (lt_of_block M7.out)).trans M7.out)
    have gR8 := cell_blk R8.out
    have gM8 := cell_blk M8.out
    have lR8 := lt_of_block R8.out
    have lM8 := lt_of_block M8.out
    have lP8 := lt_of_block P8.out
    have nR8 : ¬ w5.heap.size = w8.heap.size := by omega
    have nM8 : ¬ w6.heap.size = w8.heap.size := by omega
    have nP8 : ¬ w7.heap.size = w8.heap.size := by omega
    have hbb8 := below_then hbb7 hb78 hbb7.size
    unfold repRZ repR P.Sup.zero
    clear hb8
    go_wp2_with fail
    refine (HSM.out _ (hb78.trans (((Below.refl _ w8).alloc (Nat.le_refl _) _).mono hb78.size))).mono ?_
    rintro e w9 ⟨rfl, hb9⟩
    have hb89 := below_alloc1 hb9
    have R9 := Lib.hid ((hb89.block _ lR8).trans R8.out)
    have gR9 := cell_blk R9.out
    have hbb9 := below_then hbb8 hb89 hbb8.size
    have HPG := Lib.hid ((HR7a.out.rd.below (hb78.trans (hb89.mono hb78.size))).g)
    rw [runI_length] at HPG
    clear hb9 gR8 gM8
    go_wp2_with fail
    go_loopw [19, 20] (fun b i wr => ∃ j : Nat, j ≤ mG ∧ b = .int .i64 j ∧ i = .int .i64 j ∧ Below w9.heap.size w9 wr) (fun _ i _ => mG - (intOf i).toNat)
    case atStart => exact ⟨0, by omega, rfl, rfl, Below.refl _ _⟩
    case round =>
      obtain ⟨j, hj, rfl, rfl, hbr⟩ := hrel
      have gRr := cell_blk ((hbr.block _ (lt_of_block R9.out)).trans R9.out)
      have HPr := Lib.hid (RV.below HPG.out hbr)
      by_cases hlt : j < mG
      · have j1 : (j : Int) < (mG : Int) := by omega
        have jm : (mG : Int) ≤ 98 := by omega
        obtain ⟨q, rfl, hq⟩ := RV.run HPr.out j hlt
        have j3 : ¬ 2 + (j : Int) < 2 := by omega
        have j4 : ¬ 100 ≤ 2 + (j : Int) := by omega
        have jn : ((j : Int) + 1) ≤ 98 := by omega
        by_cases jz : j = 0
        · subst jz
          have hz : q.add 0 = q := by
            unfold Addr.add
            split <;> simp_all
          have hq0 : wr.cell? q = some (.int .i64 2) := by simpa [hz] using hq
          clear j3 j4 hz
          go_wp2_with fail
          go_quiet (fail)
          go_wp2
          exact ⟨⟨1, by omega, by go_num, by go_num, below_drewN hbr _⟩, by simp [intOf]; omega⟩
        · obtain ⟨J, rfl⟩ : ∃ J, j = J + 1 := ⟨j - 1, by omega⟩
          obtain ⟨q', hq', hp'⟩ := RV.run HPr.out J (by omega)
          obtain rfl : q' = q := by cases hq'; rfl
          have e1 : ((J + 1 : Nat) : Int) = (J : Int) + 1 := by omega
          rw [e1] at hq j1 j3 j4
          have j6 : 0 < (J : Int) + 1 := by omega
          have j7 : ¬ 2 + ((J : Int) + 1) ≤ 2 + (J : Int) := by omega
          have j8 : (J : Int) < (mG : Int) := by omega
          have j9 : 0 ≤ (J : Int) + 1 := by omega
          have j5 : (J : Int) + 1 - 1 = (J : Int) := by omega
          have hq2 : wr.cell? ⟨q'.block, q'.off + (J + 1), none⟩ = some (.int .i64 (2 + ((J : Int) + 1))) := by
            rw [← hq]
            unfold Addr.add
            rw [if_neg (by omega)]
          have hw1 : IntKind.i64.wrap (J : Int) = (J : Int) := IntWalk.i64_in _ (by omega)
          have hw2 : IntKind.i64.wrap ((J : Int) + 1 - 1) = (J : Int) := by rw [j5]; exact hw1
          clear hq' e1 jn
          go_wp2_with fail
          go_quiet (fail)
          go_wp2
          exact ⟨⟨J + 2, by omega, by go_num, by go_num, below_drewN hbr _⟩, by simp [intOf]; omega⟩
      · obtain rfl : j = mG := by omega
        have j1 : ¬ (j : Int) < (j : Int) := by omega
        have j2 : (n0 : Int) + 1 ≤ (j : Int) := by omega
        have j3 : (n0 : Int) ≤ 60 := by omega
        go_wp2
        go_ret
        exact ⟨rfl, below_then hbb9 hbr hbb9.size⟩
  · have HCH := Lib.hid (show s.chk = 0 ∧ walkSpec (specC 100 I s) = some (sl7, st7) from ⟨hch, hsp⟩)
    clear hch hsp
    obtain ⟨xP, yP, xT, yT, xS, yS, xG, yG, rfl, rfl, rfl, rfl, hr7⟩ := hr0.rdAt
    obtain ⟨nP, hnP⟩ : ∃ n, n = st7.ps.length := ⟨_, rfl⟩
    obtain ⟨nT, hnT⟩ : ∃ n, n = st7.tx.length := ⟨_, rfl⟩
    obtain ⟨nS, hnS⟩ : ∃ n, n = sl7.length := ⟨_, rfl⟩
    obtain ⟨nG, hnG⟩ : ∃ n, n = (pgsTo st7 100).length := ⟨_, rfl⟩
    rw [← hnP, ← hnT, ← hnS, ← hnG]
    have HE7 := Lib.hid (show nP = st7.ps.length ∧ nT = st7.tx.length ∧ nS = sl7.length ∧ nG = (pgsTo st7 100).length from ⟨hnP, hnT, hnS, hnG⟩)
    have HQ7 := Lib.hid hr7.rd
    have HRW2 := Lib.hid (fun o => rwalk_ok (some ⟨g, 0, none⟩) (100 * 256) (100 * 256) 100 I s (w7.alloc o) (HI7.out.below ((Below.refl _ w7).alloc (Nat.le_refl _) o)).rd.1 (Nat.le_refl _) (by omega) (by omega) (by omega))
    unfold supV at HRW2
    unfold repC
    clear hc7 hr0 hr7 hnP hnT hnS hnG
    go_wp2_with fail
    refine (HRW2.out _).mono ?_
    rintro e w8 ⟨hb8, ⟨h2, -⟩ | ⟨-, h2, -⟩ | ⟨-, sl2, st2, bP2, dP2, bT2, dT2, bS2, dS2, bG2, dG2, h9, hs2, rfl, hr8⟩⟩
    · exact absurd HCH.out.1 h2
    · rw [HCH.out.2] at h2; cases h2
    obtain ⟨rfl, rfl⟩ : sl2 = sl7 ∧ st2 = st7 := by
      have := hs2.symm.trans HCH.out.2
      simp only [Option.some.injEq, Prod.mk.injEq] at this
      exact this
    rw [← HE7.out.1, ← HE7.out.2.1, ← HE7.out.2.2.1, ← HE7.out.2.2.2]
    have P8 := Lib.hid (made_below hb8)
    have gP8 := cell_blk P8.out
    have hb78 := below_alloc1 hb8
    have HQ8 := Lib.hid hr8
    have HSN := Lib.hid (fun wq (hb : Below w8.heap.size w8 wq) => lsame_refl s (-1) h9 st2.ps st2.tx sl2 (pgsTo st2 100) xP xT xS xG bP2 bT2 bS2 bG2 nP nT nS nG yP yT yS yG dP2 dT2 dS2 dG2 wq HE7.out.1 HE7.out.2.1 HE7.out.2.2.1 HE7.out.2.2.2 ((HQ7.out.below hb78).below hb) (HQ8.out.below hb))
    have K8 := Lib.hid ((hb78.block _ (lt_of_block K7.out)).trans K7.out)
    have R8 := Lib.hid ((hb78.block _ (lt_of_block R7.out)).trans R7.out)
    have M8 := Lib.hid ((hb78.block _ (lt_of_block M7.out)).trans M7.out)
    have gR8 := cell_blk R8.out
    have gM8 := cell_blk M8.out
    have lR8 := lt_of_block R8.out
    have lM8 := lt_of_block M8.out
    have lP8 := lt_of_block P8.out
    have nR8 : ¬ w5.heap.size = w8.heap.size := by omega
    have nM8 : ¬ w6.heap.size = w8.heap.size := by omega
    have nP8 : ¬ w7.heap.size = w8.heap.size := by omega
    have hbb8 := below_then hbb7 hb78 hbb7.size
    unfold repC repR at HSN
    unfold repR
    clear hb8 hr8 hs2
    go_wp2_with fail
    refine (HSM.out _ (hb78.trans (((Below.refl _ w8).alloc (Nat.le_refl _) _).mono hb78.size))).mono ?_
    rintro e w9 ⟨rfl, hb9⟩
    have hb89 := below_alloc1 hb9
    have R9 := Lib.hid ((hb89.block _ lR8).trans R8.out)
    have gR9 := cell_blk R9.out
    have hbb9 := below_then hbb8 hb89 hbb8.size
    have P9 := Lib.hid ((hb89.block _ lP8).trans P8.out)
    have Q9 := Lib.hid (made_below hb9)
    have gP9 := cell_blk P9.out
    have gQ9 := cell_blk Q9.out
    clear hb9 gR8 gM8 gP8
    go_wp2_with fail
    refine (HSN.out _ hb89).mono ?_
    rintro e w10 ⟨rfl, hb10⟩
    have R10 := Lib.hid ((hb10.block _ (lt_of_block R9.out)).trans R9.out)
    have gR10 := cell_blk R10.out
    have hbb10 := below_then hbb9 hb10 hbb9.size
    have HPG := Lib.hid (((HR7a.out.rd.below (hb78.trans (hb89.mono hb78.size))).below hb10).g)
    rw [runI_length] at HPG
    clear gR9 gP9 gQ9
    go_wp2_with fail
    go_loopw [19, 20] (fun b i wr => ∃ j : Nat, j ≤ mG ∧ b = .int .i64 j ∧ i = .int .i64 j ∧ Below w10.heap.size w10 wr) (fun _ i _ => mG - (intOf i).toNat)
    case atStart => exact ⟨0, by omega, rfl, rfl, Below.refl _ _⟩
    case round =>
      obtain ⟨j, hj, rfl, rfl, hbr⟩ := hrel
      have gRr := cell_blk ((hbr.block _ (lt_of_block R10.out)).trans R10.out)
      have HPr := Lib.hid (RV.below HPG.out hbr)
      by_cases hlt : j < mG
      · have j1 : (j : Int) < (mG : Int) := by omega
        have jm : (mG : Int) ≤ 98 := by omega
        obtain ⟨q, rfl, hq⟩ := RV.run HPr.out j hlt
        have j3 : ¬ 2 + (j : Int) < 2 := by omega
        have j4 : ¬ 100 ≤ 2 + (j : Int) := by omega
        have jn : ((j : Int) + 1) ≤ 98 := by omega
        by_cases jz : j = 0
        · subst jz
          have hz : q.add 0 = q := by
            unfold Addr.add
            split <;> simp_all
          have hq0 : wr.cell? q = some (.int .i64 2) := by simpa [hz] using hq
          clear j3 j4 hz
          go_wp2_with fail
          go_quiet (fail)
          go_wp2
          exact ⟨⟨1, by omega, by go_num, by go_num, below_drewN hbr _⟩, by simp [intOf]; omega⟩
        · obtain ⟨J, rfl⟩ : ∃ J, j = J + 1 := ⟨j - 1, by omega⟩
          obtain ⟨q', hq', hp'⟩ := RV.run HPr.out J (by omega)
          obtain rfl : q' = q := by cases hq'; rfl
          have e1 : ((J + 1 : Nat) : Int) = (J : Int) + 1 := by omega
          rw [e1] at hq j1 j3 j4
          have j6 : 0 < (J : Int) + 1 := by omega
          have j7 : ¬ 2 + ((J : Int) + 1) ≤ 2 + (J : Int) := by omega
          have j8 : (J : Int) < (mG : Int) := by omega
          have j9 : 0 ≤ (J : Int) + 1 := by omega
          have j5 : (J : Int) + 1 - 1 = (J : Int) := by omega
          have hq2 : wr.cell? ⟨q'.block, q'.off + (J + 1), none⟩ = some (.int .i64 (2 + ((J : Int) + 1))) := by
            rw [← hq]
            unfold Addr.add
            rw [if_neg (by omega)]
          have hw1 : IntKind.i64.wrap (J : Int) = (J : Int) := IntWalk.i64_in _ (by omega)
          have hw2 : IntKind.i64.wrap ((J : Int) + 1 - 1) = (J : Int) := by rw [j5]; exact hw1
          clear hq' e1 jn
          go_wp2_with fail
          go_quiet (fail)
          go_wp2
          exact ⟨⟨J + 2, by omega, by go_num, by go_num, below_drewN hbr _⟩, by simp [intOf]; omega⟩
      · obtain rfl : j = mG := by omega
        have j1 : ¬ (j : Int) < (j : Int) := by omega
        have j2 : (n0 : Int) + 1 ≤ (j : Int) := by omega
        have j3 : (n0 : Int) ≤ 60 := by omega
        go_wp2
        go_ret
        exact ⟨rfl, below_then hbb10 hbr hbb10.size⟩
end Go.Proofs.Ytnjpaanjgbfbaaa
