/- The law of chapter 12: AuditStruck. Printed by gen_la23.py. -/
import Derived.Test.YtnjpaanjgbfbaaaGreatJ52
namespace Go.Proofs.YtnjpaanjgbfbaaaGreat
set_option linter.unusedVariables false
set_option linter.unusedSimpArgs false
open Go.RowKit

set_option maxRecDepth 100000 in
set_option maxHeartbeats 6400000 in
theorem auditStruck_walk (a0 : Option Addr) (n0 c0 : Nat) (l0 : List UInt8) (a1 : Option Addr) (n1 c1 : Nat) (l1 : List UInt8) (a2 : Option Addr) (n2 c2 : Nat) (l2 : List Hit) (w : World) (h0 : Rd w a0 n0 l0) (k0 : n0 ≤ c0) (h1 : Rd w a1 n1 l1) (k1 : n1 ≤ c1) (h2 : RH w a2 n2 l2) (k2 : n2 ≤ c2) :
    Calls Tryz.prog 4 #[.slice a0 n0 c0, .slice a1 n1 c1, .slice a2 n2 c2] w fun e w' => e = .returned (.bool true) ∧ Below w.heap.size w w' := by
  have H0 := Lib.hid h0
  have H1 := Lib.hid h1
  have H2 := Lib.hid h2
  have mh : (n2 : Int) ≤ 9223372036854775807 := by have := h2.2.1; unfold maxLen at this; omega
  clear h0 h1 h2
  by_cases m0 : 120 < n0
  · go_enter Tryz.func4, Tryz.ntmps4
    go_wp2_with fail
    refine (awake12_any _).mono ?_
    rintro e w1 ⟨rfl, hb1⟩
    have i0 : 120 < (n0 : Int) := by omega
    go_wp2
    go_ret
    exact ⟨rfl, hb1⟩
  by_cases m1 : 300 < n1
  · go_enter Tryz.func4, Tryz.ntmps4
    go_wp2_with fail
    refine (awake12_any _).mono ?_
    rintro e w1 ⟨rfl, hb1⟩
    have i0 : ¬ 120 < (n0 : Int) := by omega
    have i1 : 300 < (n1 : Int) := by omega
    go_wp2
    go_ret
    exact ⟨rfl, hb1⟩
  by_cases m2 : 20 < n2
  · go_enter Tryz.func4, Tryz.ntmps4
    go_wp2_with fail
    refine (awake12_any _).mono ?_
    rintro e w1 ⟨rfl, hb1⟩
    have i0 : ¬ 120 < (n0 : Int) := by omega
    have i1 : ¬ 300 < (n1 : Int) := by omega
    have i2 : 20 < (n2 : Int) := by omega
    go_wp2
    go_ret
    exact ⟨rfl, hb1⟩
  have i0 : ¬ 120 < (n0 : Int) := by omega
  have i1 : ¬ 300 < (n1 : Int) := by omega
  have i2 : ¬ 20 < (n2 : Int) := by omega
  go_enter Tryz.func4, Tryz.ntmps4
  go_wp2_with fail
  refine (awake12_any _).mono ?_
  rintro e w1 ⟨rfl, hb1⟩
  have HB := Lib.hid (build_ok 160 l0 l1 a0 n0 c0 a1 n1 c1 4 w1 (H0.out.below hb1) (H1.out.below hb1) k1 (by omega) (by omega) (by omega) (by omega) (by unfold P.needN; omega) (by omega))
  go_wp2_with fail
  refine HB.out.mono ?_
  rintro e w2 ⟨g0, s, I, -, rfl, him, hb2⟩
  have hbb2 := below_then hb1 hb2 hb1.size
  have HI2 := Lib.hid him
  clear him hb2 HB
  unfold supV
  go_wp2_with fail
  have hb3 : Below w2.heap.size w2 (w2.alloc (.cells #[.int .i64 s.g, .int .i64 s.p, .int .i64 s.r, .int .i64 s.h, .int .i64 s.b, .int .i64 s.l, .int .i64 s.s, .int .i64 s.f] 25)) := (Below.refl _ w2).alloc (Nat.le_refl _) _
  generalize w2.alloc (.cells #[.int .i64 s.g, .int .i64 s.p, .int .i64 s.r, .int .i64 s.h, .int .i64 s.b, .int .i64 s.l, .int .i64 s.s, .int .i64 s.f] 25) = w3 at *
  have hbb3 := below_then hbb2 hb3 hbb2.size
  have HI3 := Lib.hid (HI2.out.below hb3)
  have HST := Lib.hid (struck_any (some ⟨g0, 0, none⟩) (160 * 256) (160 * 256) 160 I a2 n2 c2 l2 w3 HI3.out.rd.1 (by omega) (by omega) (by omega) (H2.out.below hbb3))
  clear hb3
  refine HST.out.mono ?_
  rintro e w4 ⟨g, c, img, rfl, him4, hb4⟩
  have hbb4 := below_then hbb3 hb4 hbb3.size
  have HI4 := Lib.hid him4
  clear him4 hb4 HST
  have HL := Lib.hid (load_any (some ⟨g, 0, none⟩) (160 * 256) c 160 img w4 HI4.out.rd.1 HI4.out.rd.2 (by omega) (by omega) (by omega))
  go_wp2_with fail
  refine HL.out.mono ?_
  rintro e w5 ⟨d, rfl, hd, hD, hb5⟩
  have hbb5 := below_then hbb4 hb5 hbb4.size
  have HI5 := Lib.hid (HI4.out.below hb5)
  have HO := Lib.hid (aopen_ok d 160 img 0 w5 hD (by omega))
  have HD := Lib.hid (show w4.heap.size ≤ d from hd)
  have HGD := Lib.hid (show g ≠ d by have := HI4.out.ge; omega)
  clear hd hD hb5
  go_wp2_with fail
  refine HO.out.mono ?_
  rintro e w6 ⟨hc6, k, hk, hD6, hcase⟩
  have hbb6 := below_chg hbb5 hc6 hbb5.size (fun i e => by have := HD.out; have := hbb4.size; unfold OnlyD at e; omega)
  have HI6 := Lib.hid (HI5.out.chg hc6 (fun e => HGD.out e))
  have HRO := Lib.hid (fun o => ropen_ok (some ⟨g, 0, none⟩) (160 * 256) c 160 img (w6.alloc o) (HI6.out.below ((Below.refl _ w6).alloc (Nat.le_refl _) o)).rd.1 HI6.out.rd.2 (by omega) (by omega) (by omega))
  clear hc6 HO HL hk hD6
  rcases hcase with ⟨s', pl, sl, st, aP, cP, aT, cT, aS, cS, aG, cG, hop, rfl, hr6⟩ | ⟨hop, rfl⟩
  · have HR6 := Lib.hid hr6
    have HOP := Lib.hid hop
    obtain ⟨nP, hnP⟩ : ∃ n, n = st.ps.length := ⟨_, rfl⟩
    obtain ⟨nT, hnT⟩ : ∃ n, n = st.tx.length := ⟨_, rfl⟩
    obtain ⟨nS, hnS⟩ : ∃ n, n = sl.length := ⟨_, rfl⟩
    obtain ⟨nG, hnG⟩ : ∃ n, n = (pgsTo st (160)).length := ⟨_, rfl⟩
    rw [← hnP, ← hnT, ← hnS, ← hnG]
    have HE := Lib.hid (show nP = st.ps.length ∧ nT = st.tx.length ∧ nS = sl.length ∧ nG = (pgsTo st (160)).length from ⟨hnP, hnT, hnS, hnG⟩)
    unfold repC
    clear hr6 hop hnP hnT hnS hnG
    go_wp2_with fail
    refine (HRO.out _).mono ?_
    rintro e w7 ⟨hb7, ⟨s2, pl2, sl2, st2, bP, dP, bT, dT, bS, dS, bG, dG, hh, ho7, rfl, hr7⟩ | ⟨ho7, -⟩⟩
    rotate_left
    · rw [HOP.out] at ho7
      cases ho7
    obtain ⟨rfl, rfl, rfl, rfl⟩ : s2 = s' ∧ pl2 = pl ∧ sl2 = sl ∧ st2 = st := by
      have := ho7.symm.trans HOP.out
      simp only [Option.some.injEq, Prod.mk.injEq] at this
      exact this
    rw [← HE.out.1, ← HE.out.2.1, ← HE.out.2.2.1, ← HE.out.2.2.2]
    have k7 := made_below hb7
    have g7 := cell_blk k7
    have l7 := lt_of_block k7
    have hb67 := below_alloc1 hb7
    have hbb7 := below_then hbb6 hb67 hbb6.size
    have HR67 := Lib.hid (HR6.out.below hb67)
    have HR7 := Lib.hid hr7
    have HSM := Lib.hid (fun wq (hb : Below w7.heap.size w7 wq) => lsame_refl s2 pl2 hh st2.ps st2.tx sl2 (pgsTo st2 (160)) aP aT aS aG bP bT bS bG nP nT nS nG cP cT cS cG dP dT dS dG wq HE.out.1 HE.out.2.1 HE.out.2.2.1 HE.out.2.2.2 (HR67.out.below hb) (HR7.out.below hb))
    unfold repC repR at HSM
    unfold repR
    clear hb7 k7 ho7 hr7
    have hne : ¬ w6.heap.size = w7.heap.size := by omega
    go_wp2_with fail
    refine (HSM.out _ ((Below.refl _ w7).alloc (Nat.le_refl _) _)).mono ?_
    rintro e w8 ⟨rfl, hb8⟩
    have hb78 := below_alloc1 hb8
    have hbb8 := below_then hbb7 hb78 hbb7.size
    clear hb8 g7 HSM
    go_wp2
    go_ret
    exact ⟨rfl, hbb8⟩
  · have HOP := Lib.hid hop
    unfold repZ repC P.Sup.zero
    clear hop
    go_wp2_with fail
    refine (HRO.out _).mono ?_
    rintro e w7 ⟨hb7, ⟨s2, pl2, sl2, st2, bP, dP, bT, dT, bS, dS, bG, dG, hh, ho7, -⟩ | ⟨ho7, rfl⟩⟩
    · rw [HOP.out] at ho7
      cases ho7
    have k7 := made_below hb7
    have g7 := cell_blk k7
    have l7 := lt_of_block k7
    have hb67 := below_alloc1 hb7
    have hbb7 := below_then hbb6 hb67 hbb6.size
    unfold repRZ repR P.Sup.zero
    clear hb7 k7 ho7
    have hne : ¬ w6.heap.size = w7.heap.size := by omega
    go_wp2
    go_ret
    exact ⟨rfl, hbb7.alloc hbb7.size _⟩
end Go.Proofs.YtnjpaanjgbfbaaaGreat
