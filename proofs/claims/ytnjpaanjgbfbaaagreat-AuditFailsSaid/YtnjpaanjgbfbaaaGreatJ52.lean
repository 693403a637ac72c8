/- The laws of chapter 12: what they use: an image that was built, the walks of Open. -/
import Derived.Test.YtnjpaanjgbfbaaaGreatJ51
import Derived.Test.YtnjpaanjgbfbaaaGreatJ10
namespace Go.Proofs.YtnjpaanjgbfbaaaGreat
set_option linter.unusedVariables false
set_option linter.unusedSimpArgs false
open Go.RowKit

/-- What is known of an image that was built. -/
def Built (np : Nat) (S t : List UInt8) (s : P.Sup) (I : List UInt8) : Prop :=
  ∃ st A4, opens np I = some (s, 0, t, st) ∧ walkSpec (specC np I s) = some (t, st) ∧ st.ps.length = S.length ∧ (∀ m, 0 < st.met m ↔ 2 ≤ m ∧ m < A4) ∧ 2 + S.length + 1 ≤ A4 ∧ A4 ≤ np ∧ s.chk = 0
theorem build_ok (np : Nat) (S t : List UInt8) (aS : Option Addr) (nS cS : Nat) (aT : Option Addr) (nT cT : Nat) (gen : Int) (w : World) (hS : Rd w aS nS S) (hT : Rd w aT nT t) (hcT : nT ≤ cT)
    (hg : -9223372036854775808 ≤ gen ∧ gen ≤ 9223372036854775807) (hnS : nS ≤ 150) (hnT : nT ≤ 1000) (hnp : nS + 13 ≤ np) (hnq : nS + 11 + P.needN nT + P.needN ((np + 7) / 8) ≤ np) (hnp2 : np ≤ 4096) :
    Calls Tryz.prog 8 #[.int .i64 (np : Int), .slice aS nS cS, .slice aT nT cT, .int .i64 gen] w fun e w' =>
      ∃ g s I, Built np S t s I ∧ e = .returned (.tuple #[.slice (some ⟨g, 0, none⟩) (np * 256) (np * 256), supV s]) ∧ ImgAt w' w.heap.size g (np * 256) (np * 256) I ∧ Below w.heap.size w w' := by
  refine (build_any np S t aS nS cS aT nT cT gen w hS hT hcT hg hnS hnT hnp hnq hnp2).mono ?_
  rintro e w' ⟨g, R, H, A2, img, hgr, hb, rfl, him, hbl⟩
  have e1 : S.length = nS := hS.1
  have e2 : t.length = nT := hT.1
  have h1 : 1 ≤ P.needN ((np + 7) / 8) := by unfold P.needN; omega
  obtain ⟨st, A4, q1, q2, q3, q4, q5, q6⟩ := bld_opens np S t gen R H A2 img hg (by omega) (by omega) (by omega) (by rw [e1, e2]; exact hnq) hnp2 hgr ⟨hb.2.2.1, hb.2.2.2⟩
  exact ⟨g, _, _, ⟨st, A4, q1, q2, by rw [q3, psI_length], q4, q5, q6, supI_chk np S t gen R H A2 img hg (by omega) (by omega) (by omega) (by rw [e1, e2]; omega) hnp2 hgr ⟨hb.2.2.1, hb.2.2.2⟩⟩, rfl, him, hbl⟩
theorem clean_nil (k : Nat) : lostO (([] : List UInt8).drop k) = false := by rw [List.drop_nil]; rfl
/-- How the program's Open ends on a device whose calls do not fail. -/
def AOEnd (d np : Nat) (img : List UInt8) (ops : Nat) (w : World) (e : Ending) (w' : World) : Prop :=
  Chg (OnlyD d) w w' ∧ ∃ k, k ≤ np + 2 ∧ Dev (OnlyD d) w' d np img (ops + k) [] ∧
  ((∃ s pl sl st aP cP aT cT aS cS aG cG, opens np img = some (s, pl, sl, st) ∧ e = .returned (.tuple #[.agg (repC s pl (.slice aP st.ps.length cP) (.slice aT st.tx.length cT) (.slice aS sl.length cS) (.slice aG (pgsTo st np).length cG)), .int .i64 0]) ∧ RepRd w' st.ps st.tx sl (pgsTo st np) aP aT aS aG) ∨
   (opens np img = none ∧ e = .returned (.tuple #[repZ, .int .i64 8])))
theorem aopen_ok (d np : Nat) (img : List UInt8) (ops : Nat) (w : World) (h : Dev (OnlyD d) w d np img ops []) (ho : ops ≤ 800000) :
    Calls Tryz.prog 10 #[.pointer (some ⟨d, 0, none⟩)] w (AOEnd d np img ops w) := by
  refine (aopen_any d np img ops [] w h ho).mono ?_
  rintro e w' ⟨hc, ⟨s, pl, sl, st, vP, vT, vS, vG, hop, rfl, hr, hD, -⟩ | ⟨hop, rfl, k, hk, hD, -⟩ | ⟨-, k, hk, -, -, hl⟩⟩
  · obtain ⟨aP, cP, aT, cT, aS, cS, aG, cG, rfl, rfl, rfl, rfl, hrr⟩ := hr.rd
    rw [List.drop_nil] at hD
    exact ⟨hc, _, by have := P.cnt_le np st; omega, hD, .inl ⟨s, pl, sl, st, aP, cP, aT, cT, aS, cS, aG, cG, hop, rfl, hrr⟩⟩
  · rw [List.drop_nil] at hD
    exact ⟨hc, k, hk, hD, .inr ⟨hop, rfl⟩⟩
  · rw [clean_nil] at hl
    cases hl
/-- How the reference's Open ends. -/
def RO2 (np : Nat) (img : List UInt8) (w : World) (e : Ending) (w' : World) : Prop :=
  Below w.heap.size w w' ∧
  ((∃ s pl sl st aP cP aT cT aS cS aG cG h, opens np img = some (s, pl, sl, st) ∧ e = .returned (.tuple #[.agg (repR s pl (.slice aP st.ps.length cP) (.slice aT st.tx.length cT) (.slice aS sl.length cS) (.slice aG (pgsTo st np).length cG) h), .int .i64 0]) ∧ RepRd w' st.ps st.tx sl (pgsTo st np) aP aT aS aG) ∨
   (opens np img = none ∧ e = .returned (.tuple #[repRZ, .int .i64 8])))
theorem ropen_ok (a : Option Addr) (n c np : Nat) (img : List UInt8) (w : World) (hr : Rd w a n img) (hc : n ≤ c) (hn : n = 256 * np) (h8 : 8 ≤ np) (h4 : np ≤ 4096) :
    Calls Tryz.prog 11 #[.slice a n c] w (RO2 np img w) := by
  refine (raopen_any a n c np img w hr hc hn h8 h4).mono ?_
  rintro e w' ⟨hb, ⟨hop, rfl⟩ | ⟨s, pl, sl, st, vP, vT, vS, vG, h, hop, rfl, hrr⟩⟩
  · exact ⟨hb, .inr ⟨hop, rfl⟩⟩
  · obtain ⟨aP, cP, aT, cT, aS, cS, aG, cG, rfl, rfl, rfl, rfl, hq⟩ := hrr.rd
    exact ⟨hb, .inl ⟨s, pl, sl, st, aP, cP, aT, cT, aS, cS, aG, cG, h, hop, rfl, hq⟩⟩
/-- Open on an image that was built. -/
def BOpen (d np : Nat) (S t : List UInt8) (s : P.Sup) (I : List UInt8) (ops : Nat) (w : World) (e : Ending) (w' : World) : Prop :=
  Chg (OnlyD d) w w' ∧ ∃ st k aP cP aT nT cT aS cS aG nG cG, opens np I = some (s, 0, t, st) ∧ S.length = st.ps.length ∧ nT = st.tx.length ∧ nG = (pgsTo st np).length ∧ k ≤ np + 2 ∧ Dev (OnlyD d) w' d np I (ops + k) [] ∧
    e = .returned (.tuple #[.agg (repC s 0 (.slice aP S.length cP) (.slice aT nT cT) (.slice aS t.length cS) (.slice aG nG cG)), .int .i64 0]) ∧ RepRd w' st.ps st.tx t (pgsTo st np) aP aT aS aG
theorem bopen_ok (d np : Nat) (S t : List UInt8) (s : P.Sup) (I : List UInt8) (ops : Nat) (w : World) (hB : Built np S t s I) (h : Dev (OnlyD d) w d np I ops []) (ho : ops ≤ 800000) :
    Calls Tryz.prog 10 #[.pointer (some ⟨d, 0, none⟩)] w (BOpen d np S t s I ops w) := by
  obtain ⟨st0, A4, q1, -, q3, -⟩ := hB
  refine (aopen_ok d np I ops w h ho).mono ?_
  rintro e w' ⟨hc, k, hk, hD, ⟨s', pl, sl, st, aP, cP, aT, cT, aS, cS, aG, cG, hop, rfl, hr⟩ | ⟨hop, -⟩⟩
  · have := hop.symm.trans q1
    simp only [Option.some.injEq, Prod.mk.injEq] at this
    obtain ⟨rfl, rfl, rfl, rfl⟩ := this
    exact ⟨hc, st, k, aP, cP, aT, _, cT, aS, cS, aG, _, cG, hop, q3.symm, rfl, rfl, hk, hD, by rw [q3], hr⟩
  · rw [q1] at hop
    cases hop
def BROpen (np : Nat) (S t : List UInt8) (s : P.Sup) (I : List UInt8) (w : World) (e : Ending) (w' : World) : Prop :=
  Below w.heap.size w w' ∧ ∃ st aP cP aT nT cT aS cS aG nG cG h, opens np I = some (s, 0, t, st) ∧ S.length = st.ps.length ∧ nT = st.tx.length ∧ nG = (pgsTo st np).length ∧
    e = .returned (.tuple #[.agg (repR s 0 (.slice aP S.length cP) (.slice aT nT cT) (.slice aS t.length cS) (.slice aG nG cG) h), .int .i64 0]) ∧ RepRd w' st.ps st.tx t (pgsTo st np) aP aT aS aG
theorem bropen_ok (a : Option Addr) (n c np : Nat) (S t : List UInt8) (s : P.Sup) (I : List UInt8) (w : World) (hB : Built np S t s I) (hr : Rd w a n I) (hc : n ≤ c) (hn : n = 256 * np) (h8 : 8 ≤ np) (h4 : np ≤ 4096) :
    Calls Tryz.prog 11 #[.slice a n c] w (BROpen np S t s I w) := by
  obtain ⟨st0, A4, q1, -, q3, -⟩ := hB
  refine (ropen_ok a n c np I w hr hc hn h8 h4).mono ?_
  rintro e w' ⟨hb, ⟨s', pl, sl, st, aP, cP, aT, cT, aS, cS, aG, cG, h, hop, rfl, hr⟩ | ⟨hop, -⟩⟩
  · have := hop.symm.trans q1
    simp only [Option.some.injEq, Prod.mk.injEq] at this
    obtain ⟨rfl, rfl, rfl, rfl⟩ := this
    exact ⟨hb, st, aP, cP, aT, _, cT, aS, cS, aG, _, cG, h, hop, q3.symm, rfl, rfl, by rw [q3], hr⟩
  · rw [q1] at hop
    cases hop
end Go.Proofs.YtnjpaanjgbfbaaaGreat
/- The law of chapter 12: awake; AuditOpens. -/
namespace Go.Proofs.YtnjpaanjgbfbaaaGreat
set_option linter.unusedVariables false
set_option linter.unusedSimpArgs false
open Go.RowKit

set_option maxRecDepth 100000 in
set_option maxHeartbeats 3200000 in
theorem awake12_any (w : World) : Calls Tryz.prog 7 #[] w fun e w' => e = .returned (.bool true) ∧ Below w.heap.size w w' := by
  obtain ⟨w0, hw0⟩ : ∃ w0, w0 = (w.alloc (.cells #[.int .u8 1, .int .u8 2, .int .u8 3] 5)).alloc (.cells #[.int .u8 9] 5) := ⟨_, rfl⟩
  have hb0 : Below w.heap.size w w0 := by rw [hw0]; exact ((Below.refl _ w).alloc (Nat.le_refl _) _).alloc (by simp) _
  have hS : Rd w0 (some ⟨w.heap.size, 0, none⟩) 3 [1, 2, 3] := by
    rw [hw0]
    exact (Rd_lit w 5 [1, 2, 3] (by simp [maxLen])).below ((Below.refl _ _).alloc (Nat.le_refl _) _)
  have hT : Rd w0 (some ⟨w.heap.size + 1, 0, none⟩) 1 [9] := by
    rw [hw0]
    have h := Rd_lit (w.alloc (.cells #[.int .u8 1, .int .u8 2, .int .u8 3] 5)) 5 [9] (fr := (0, 0)) (by simp [maxLen])
    have e : (w.alloc (.cells #[.int .u8 1, .int .u8 2, .int .u8 3] 5)).heap.size = w.heap.size + 1 := by simp
    rw [e] at h
    exact h
  have HB := Lib.hid (build_ok 16 [1, 2, 3] [9] (some ⟨w.heap.size, 0, none⟩) 3 3 (some ⟨w.heap.size + 1, 0, none⟩) 1 1 5 w0 hS hT (Nat.le_refl _) (by omega) (by omega) (by omega) (by omega) (by decide) (by omega))
  have HB0 := Lib.hid hb0
  clear hS hT hb0
  go_enter Tryz.func7, Tryz.ntmps7
  go_wp2_with fail
  rw [← hw0]
  clear hw0
  refine HB.out.mono ?_
  rintro e w1 ⟨g, s, I, hBu, rfl, him, hb1⟩
  have hbb1 := below_then HB0.out hb1 HB0.out.size
  have HBU := Lib.hid hBu
  have HI1 := Lib.hid him
  clear hBu him hb1 HB
  unfold supV
  go_wp2_with fail
  have hb2 : Below w1.heap.size w1 (w1.alloc (.cells #[.int .i64 s.g, .int .i64 s.p, .int .i64 s.r, .int .i64 s.h, .int .i64 s.b, .int .i64 s.l, .int .i64 s.s, .int .i64 s.f] 25)) := (Below.refl _ w1).alloc (Nat.le_refl _) _
  have hk2 : (w1.alloc (.cells #[.int .i64 s.g, .int .i64 s.p, .int .i64 s.r, .int .i64 s.h, .int .i64 s.b, .int .i64 s.l, .int .i64 s.s, .int .i64 s.f] 25)).heap[w1.heap.size]? = _ := alloc_new _ _ _ rfl
  generalize w1.alloc (.cells #[.int .i64 s.g, .int .i64 s.p, .int .i64 s.r, .int .i64 s.h, .int .i64 s.b, .int .i64 s.l, .int .i64 s.s, .int .i64 s.f] 25) = w2 at *
  have hbb2 := below_then hbb1 hb2 hbb1.size
  have HK2 := Lib.hid hk2
  have HL := Lib.hid (load_any (some ⟨g, 0, none⟩) (16 * 256) (16 * 256) 16 I w2 (HI1.out.below hb2).rd.1 (Nat.le_refl _) (by omega) (by omega) (by omega))
  clear hb2 hk2
  refine HL.out.mono ?_
  rintro e w3 ⟨d, rfl, hd, hD, hb3⟩
  have HK3 := Lib.hid ((hb3.block _ (lt_of_block HK2.out)).trans HK2.out)
  have hbb3 := below_then hbb2 hb3 hbb2.size
  have HO := Lib.hid (bopen_ok d 16 [1, 2, 3] [9] s I 0 w3 HBU.out hD (by omega))
  have HD := Lib.hid (show w2.heap.size ≤ d from hd)
  clear hd hD hb3
  go_wp2_with fail
  refine HO.out.mono ?_
  rintro e w4 ⟨hc4, st, k, aP, cP, aT, nT, cT, aS, cS, aG, nG, cG, -, -, -, -, -, -, rfl, -⟩
  have hbb4 := below_chg hbb3 hc4 hbb3.size (fun i e => by have := HD.out; have := hbb2.size; unfold OnlyD at e; omega)
  have hk4 := (hc4.block _ (lt_of_block HK3.out) (by have := HD.out; have := lt_of_block HK2.out; unfold OnlyD; omega)).trans HK3.out
  have g4 := cell_blk hk4
  have l4 := lt_of_block hk4
  have l4' : ¬ w1.heap.size = w4.heap.size := by omega
  unfold repC
  clear hc4 hk4
  go_wp2
  go_ret
  exact ⟨rfl, hbb4.alloc hbb4.size _⟩
set_option maxRecDepth 100000 in
set_option maxHeartbeats 3200000 in
theorem auditOpens_walk (a0 : Option Addr) (n0 c0 : Nat) (l0 : List UInt8) (a1 : Option Addr) (n1 c1 : Nat) (l1 : List UInt8) (gn : Int) (w : World) (h0 : Rd w a0 n0 l0) (k0 : n0 ≤ c0) (h1 : Rd w a1 n1 l1) (k1 : n1 ≤ c1) (hg : -9223372036854775808 ≤ gn ∧ gn ≤ 9223372036854775807) :
    Calls Tryz.prog 3 #[.slice a0 n0 c0, .slice a1 n1 c1, .int .i64 gn] w fun e w' => e = .returned (.bool true) ∧ Below w.heap.size w w' := by
  have H0 := Lib.hid h0
  have H1 := Lib.hid h1
  have HL0 := Lib.hid h0.1
  have HL1 := Lib.hid h1.1
  clear h0 h1
  by_cases m0 : 150 < n0
  · go_enter Tryz.func3, Tryz.ntmps3
    go_wp2_with fail
    refine (awake12_any _).mono ?_
    rintro e w1 ⟨rfl, hb1⟩
    have i0 : 150 < (n0 : Int) := by omega
    go_wp2
    go_ret
    exact ⟨rfl, hb1⟩
  by_cases m1 : 1000 < n1
  · go_enter Tryz.func3, Tryz.ntmps3
    go_wp2_with fail
    refine (awake12_any _).mono ?_
    rintro e w1 ⟨rfl, hb1⟩
    have i0 : ¬ 150 < (n0 : Int) := by omega
    have i1 : 1000 < (n1 : Int) := by omega
    go_wp2
    go_ret
    exact ⟨rfl, hb1⟩
  have i0 : ¬ 150 < (n0 : Int) := by omega
  have i1 : ¬ 1000 < (n1 : Int) := by omega
  go_enter Tryz.func3, Tryz.ntmps3
  go_wp2_with fail
  refine (awake12_any _).mono ?_
  rintro e w1 ⟨rfl, hb1⟩
  have HB := Lib.hid (build_ok 200 l0 l1 a0 n0 c0 a1 n1 c1 gn w1 (H0.out.below hb1) (H1.out.below hb1) k1 hg (by omega) (by omega) (by omega) (by unfold P.needN; omega) (by omega))
  go_wp2_with fail
  refine HB.out.mono ?_
  rintro e w2 ⟨g, s, I, hBu, rfl, him, hb2⟩
  have hbb2 := below_then hb1 hb2 hb1.size
  have HBU := Lib.hid hBu
  have HI2 := Lib.hid him
  clear hBu him hb2 HB
  unfold supV
  go_wp2_with fail
  have hb3 : Below w2.heap.size w2 (w2.alloc (.cells #[.int .i64 s.g, .int .i64 s.p, .int .i64 s.r, .int .i64 s.h, .int .i64 s.b, .int .i64 s.l, .int .i64 s.s, .int .i64 s.f] 25)) := (Below.refl _ w2).alloc (Nat.le_refl _) _
  generalize w2.alloc (.cells #[.int .i64 s.g, .int .i64 s.p, .int .i64 s.r, .int .i64 s.h, .int .i64 s.b, .int .i64 s.l, .int .i64 s.s, .int .i64 s.f] 25) = w3 at *
  have hbb3 := below_then hbb2 hb3 hbb2.size
  have HI3 := Lib.hid (HI2.out.below hb3)
  have HL := Lib.hid (load_any (some ⟨g, 0, none⟩) (200 * 256) (200 * 256) 200 I w3 HI3.out.rd.1 (Nat.le_refl _) (by omega) (by omega) (by omega))
  clear hb3
  refine HL.out.mono ?_
  rintro e w4 ⟨d, rfl, hd, hD, hb4⟩
  have hbb4 := below_then hbb3 hb4 hbb3.size
  have HI4 := Lib.hid (HI3.out.below hb4)
  have HO := Lib.hid (bopen_ok d 200 l0 l1 s I 0 w4 HBU.out hD (by omega))
  have HD := Lib.hid (show w3.heap.size ≤ d from hd)
  have HGD := Lib.hid (show g ≠ d by have := HI3.out.ge; omega)
  clear hd hD hb4
  go_wp2_with fail
  refine HO.out.mono ?_
  rintro e w5 ⟨hc5, st, k, aP, cP, aT, nT, cT, aS, cS, aG, nG, cG, ho5, e1, e2, e3, -, -, rfl, hr5⟩
  have hbb5 := below_chg hbb4 hc5 hbb4.size (fun i e => by have := HD.out; have := hbb3.size; unfold OnlyD at e; omega)
  have HI5 := Lib.hid (HI4.out.chg hc5 (fun e => HGD.out e))
  rw [HL0.out, HL1.out]
  rw [HL0.out] at e1
  have HR5 := Lib.hid hr5
  have HE := Lib.hid (show n0 = st.ps.length ∧ nT = st.tx.length ∧ nG = (pgsTo st 200).length ∧ opens 200 I = some (s, 0, l1, st) from ⟨e1, e2, e3, ho5⟩)
  have HBR := Lib.hid (fun o => bropen_ok (some ⟨g, 0, none⟩) (200 * 256) (200 * 256) 200 l0 l1 s I (w5.alloc o) HBU.out (HI5.out.below ((Below.refl _ w5).alloc (Nat.le_refl _) o)).rd.1 (Nat.le_refl _) (by omega) (by omega) (by omega))
  clear hr5 ho5 e1 e2 e3 hc5 HO HL
  unfold repC
  go_wp2_with fail
  refine (HBR.out _).mono ?_
  rintro e w6 ⟨hb6, st', bP, dP, bT, mT, dT, bS, dS, bG, mG, dG, hh, ho6, e1, e2, e3, rfl, hr6⟩
  obtain rfl : st' = st := by
    have := ho6.symm.trans HE.out.2.2.2
    simp only [Option.some.injEq, Prod.mk.injEq] at this
    exact this.2.2.2
  rw [HL0.out, HL1.out]
  obtain rfl : mT = nT := by rw [e2, HE.out.2.1]
  obtain rfl : mG = nG := by rw [e3, HE.out.2.2.1]
  have k5 := made_below hb6
  have g5 := cell_blk k5
  have K5 := Lib.hid k5
  have l5 := lt_of_block k5
  have hb56 := below_alloc1 hb6
  have hbb6 := below_then hbb5 hb56 hbb5.size
  have HR56 := Lib.hid (HR5.out.below hb56)
  have HR6 := Lib.hid hr6
  have HSM := Lib.hid (fun wq (hb : Below w6.heap.size w6 wq) => lsame_refl s 0 hh st'.ps st'.tx l1 (pgsTo st' 200) aP aT aS aG bP bT bS bG n0 mT n1 mG cP cT cS cG dP dT dS dG wq HE.out.1 HE.out.2.1 HL1.out.symm HE.out.2.2.1 (HR56.out.below hb) (HR6.out.below hb))
  have HS1 := Lib.hid (fun wq (hb : Below w6.heap.size w6 wq) => same_refl aS a1 n1 cS c1 l1 wq (by have := (HR56.out.below hb).s; rw [HL1.out] at this; exact this) ((H1.out.below hbb6).below hb))
  unfold repC repR at HSM
  unfold repR
  clear hb6 k5 e1 e2 e3 ho6 hr6
  have hne : ¬ w5.heap.size = w6.heap.size := by omega
  go_wp2_with fail
  refine (HSM.out _ ((Below.refl _ w6).alloc (Nat.le_refl _) _)).mono ?_
  rintro e w7 ⟨rfl, hb7⟩
  have hb67 := below_alloc1 hb7
  have k7 := (hb67.block _ l5).trans K5.out
  have g7 := cell_blk k7
  have K7 := Lib.hid k7
  have hbb7 := below_then hbb6 hb67 hbb6.size
  clear hb7 k7 g5 HSM
  go_wp2_with fail
  refine (HS1.out _ hb67).mono ?_
  rintro e w8 ⟨rfl, hb8⟩
  have k8 := (hb8.block _ (lt_of_block K7.out)).trans K7.out
  have g8 := cell_blk k8
  have hbb8 := below_then hbb7 hb8 hbb7.size
  clear k8 g7
  go_wp2
  go_ret
  exact ⟨rfl, hbb8⟩
end Go.Proofs.YtnjpaanjgbfbaaaGreat
