/- The law of chapter 12: AuditRaw. Printed by gen_la23.py. -/
import Derived.Test.YtnjpaanjgbfbaaaGreatJ52
namespace Go.Proofs.YtnjpaanjgbfbaaaGreat
set_option linter.unusedVariables false
set_option linter.unusedSimpArgs false
open Go.RowKit

theorem and_31b (x : Int) (h : -9223372036854775808 ≤ x ∧ x ≤ 9223372036854775807) : ∃ F : Nat, F < 32 ∧ bits .and .i64 x 31 = (F : Int) := by
  refine ⟨(BitVec.ofInt 64 x).toNat % 32, Nat.mod_lt _ (by omega), ?_⟩
  have e : (BitVec.ofInt 64 (31 : Int)).toNat = 31 := by decide
  have h1 : (BitVec.ofInt 64 x &&& BitVec.ofInt 64 31).toNat = (BitVec.ofInt 64 x).toNat % 32 := by
    rw [BitVec.toNat_and, e, show (31 : Nat) = 2 ^ 5 - 1 from rfl, Nat.and_two_pow_sub_one_eq_mod]
  have h2 : (BitVec.ofInt 64 x).toNat % 32 < 32 := Nat.mod_lt _ (by omega)
  have h3 : bits .and .i64 x 31 = IntKind.i64.wrap (((BitVec.ofInt 64 x &&& BitVec.ofInt 64 31).toNat : Nat) : Int) := by
    simp only [bits]
    rfl
  rw [h3, h1, IntKind.wrap_i64]
  omega
set_option maxRecDepth 100000 in
set_option maxHeartbeats 6400000 in
theorem auditRaw_walk (a2 : Option Addr) (n2 c2 : Nat) (l2 : List Hit) (x : Int) (w : World) (h2 : RH w a2 n2 l2) (k2 : n2 ≤ c2) (hx : -9223372036854775808 ≤ x ∧ x ≤ 9223372036854775807) :
    Calls Tryz.prog 5 #[.slice a2 n2 c2, .int .i64 x] w fun e w' => e = .returned (.bool true) ∧ Below w.heap.size w w' := by
  have H2 := Lib.hid h2
  have mh : (n2 : Int) ≤ 9223372036854775807 := by have := h2.2.1; unfold maxLen at this; omega
  obtain ⟨F, hF, hFe⟩ := and_31b x hx
  obtain ⟨np, hnp⟩ : ∃ np, np = 8 + F := ⟨_, rfl⟩
  have p0 : 8 + (F : Int) = (np : Int) := by omega
  have p1 : (np : Int) ≤ 39 := by omega
  have p2 : 8 ≤ np := by omega
  have p3 : np ≤ 39 := by omega
  obtain ⟨L, hL⟩ : ∃ L, L = np * 256 := ⟨_, rfl⟩
  have p4 : (np : Int) * 256 = (L : Int) := by omega
  have p5 : (L : Int) ≤ 9984 := by omega
  have p6 : 0 ≤ (L : Int) := by omega
  have hmk := mk_zr L (by omega)
  have HLL := Lib.hid hL
  clear h2 hx hnp hF hL
  by_cases m2 : 20 < n2
  · go_enter Tryz.func5, Tryz.ntmps5
    go_wp2_with fail
    refine (awake12_any _).mono ?_
    rintro e w1 ⟨rfl, hb1⟩
    have i2 : 20 < (n2 : Int) := by omega
    clear hmk
    go_wp2
    go_ret
    exact ⟨rfl, hb1⟩
  have i2 : ¬ 20 < (n2 : Int) := by omega
  go_enter Tryz.func5, Tryz.ntmps5
  go_wp2_with fail
  refine (awake12_any _).mono ?_
  rintro e w1 ⟨rfl, hb1⟩
  go_upto_region 6 with (fail)
  go_wp2_with fail
  clear hmk p4
  have hb3 : Below w1.heap.size w1 (w1.alloc (.cells (zr L) 5)) := (Below.refl _ w1).alloc (Nat.le_refl _) _
  have ho3 := OB_zr w1 w1.heap.size L (Nat.le_refl _) (by unfold maxLen; omega)
  generalize w1.alloc (.cells (zr L) 5) = w3 at *
  have HO3 := Lib.hid ho3
  clear ho3
  have ho3 := HO3.out
  have hbb3 := below_then hb1 hb3 hb1.size
  have HST := Lib.hid (struck_any (some ⟨w1.heap.size, 0, none⟩) L L np (List.replicate L 0) a2 n2 c2 l2 w3 (ImgAt.rd ho3).1 (by have := HLL.out; omega) (by omega) (by omega) (H2.out.below hbb3))
  clear hb3 ho3
  refine HST.out.mono ?_
  rintro e w4 ⟨g, c, img, rfl, him4, hb4⟩
  have hbb4 := below_then hbb3 hb4 hbb3.size
  have HI4 := Lib.hid him4
  clear him4 hb4 HST
  have HL := Lib.hid (load_any (some ⟨g, 0, none⟩) L c np img w4 HI4.out.rd.1 HI4.out.rd.2 (by have := HLL.out; omega) (by omega) (by omega))
  go_wp2_with fail
  refine HL.out.mono ?_
  rintro e w5 ⟨d, rfl, hd, hD, hb5⟩
  have hbb5 := below_then hbb4 hb5 hbb4.size
  have HI5 := Lib.hid (HI4.out.below hb5)
  have HO := Lib.hid (aopen_ok d np img 0 w5 hD (by omega))
  have HD := Lib.hid (show w4.heap.size ≤ d from hd)
  have HGD := Lib.hid (show g ≠ d by have := HI4.out.ge; omega)
  clear hd hD hb5
  go_wp2_with fail
  refine HO.out.mono ?_
  rintro e w6 ⟨hc6, k, hk, hD6, hcase⟩
  have hbb6 := below_chg hbb5 hc6 hbb5.size (fun i e => by have := HD.out; have := hbb4.size; unfold OnlyD at e; omega)
  have HI6 := Lib.hid (HI5.out.chg hc6 (fun e => HGD.out e))
  have HRO := Lib.hid (fun o => ropen_ok (some ⟨g, 0, none⟩) L c np img (w6.alloc o) (HI6.out.below ((Below.refl _ w6).alloc (Nat.le_refl _) o)).rd.1 HI6.out.rd.2 (by have := HLL.out; omega) (by omega) (by omega))
  have HOPS := Lib.hid (fun wq (hb : Below w6.heap.size w6 wq) => dops_any (OnlyD d) d np (0 + k) img [] wq (hD6.below hb))
  have HKK := Lib.hid hk
  clear hc6 HO HL hk hD6
  rcases hcase with ⟨s', pl, sl, st, aP, cP, aT, cT, aS, cS, aG, cG, hop, rfl, hr6⟩ | ⟨hop, rfl⟩
  · have HR6 := Lib.hid hr6
    have HOP := Lib.hid hop
    obtain ⟨nP, hnP⟩ : ∃ n, n = st.ps.length := ⟨_, rfl⟩
    obtain ⟨nT, hnT⟩ : ∃ n, n = st.tx.length := ⟨_, rfl⟩
    obtain ⟨nS, hnS⟩ : ∃ n, n = sl.length := ⟨_, rfl⟩
    obtain ⟨nG, hnG⟩ : ∃ n, n = (pgsTo st (np)).length := ⟨_, rfl⟩
    rw [← hnP, ← hnT, ← hnS, ← hnG]
    have HE := Lib.hid (show nP = st.ps.length ∧ nT = st.tx.length ∧ nS = sl.length ∧ nG = (pgsTo st (np)).length from ⟨hnP, hnT, hnS, hnG⟩)
    unfold repC
    clear hr6 hop hnP hnT hnS hnG
    go_wp2_with fail
    refine (HRO.out _).mono ?_
    rintro e w7 ⟨hb7, ⟨s2, pl2, sl2, st2, bP, dP, bT, dT, bS, dS, bG, dG, hh, ho7, rfl, hr7⟩ | ⟨ho7, -⟩⟩
    rotate_left
    · rw [HOP.out] at ho7
      cases ho7
    obtain ⟨rfl, rfl, rfl, rfl⟩ : s2 = s' ∧ pl2 = pl ∧ sl2 = sl ∧ st2 = st := by
      have := ho7.symm.trans HOP.out
      simp only [Option.some.injEq, Prod.mk.injEq] at this
      exact this
    rw [← HE.out.1, ← HE.out.2.1, ← HE.out.2.2.1, ← HE.out.2.2.2]
    have k7 := made_below hb7
    have g7 := cell_blk k7
    have l7 := lt_of_block k7
    have hb67 := below_alloc1 hb7
    have hbb7 := below_then hbb6 hb67 hbb6.size
    have HR67 := Lib.hid (HR6.out.below hb67)
    have HR7 := Lib.hid hr7
    have HSM := Lib.hid (fun wq (hb : Below w7.heap.size w7 wq) => lsame_refl s2 pl2 hh st2.ps st2.tx sl2 (pgsTo st2 (np)) aP aT aS aG bP bT bS bG nP nT nS nG cP cT cS cG dP dT dS dG wq HE.out.1 HE.out.2.1 HE.out.2.2.1 HE.out.2.2.2 (HR67.out.below hb) (HR7.out.below hb))
    have HOPS7 := Lib.hid (fun wq (hb : Below w7.heap.size w7 wq) => HOPS.out wq (hb67.trans (hb.mono hb67.size)))
    unfold repC repR at HSM
    unfold repR
    clear hb7 k7 ho7 hr7
    have hne : ¬ w6.heap.size = w7.heap.size := by omega
    go_wp2_with fail
    refine (HSM.out _ ((Below.refl _ w7).alloc (Nat.le_refl _) _)).mono ?_
    rintro e w8 ⟨rfl, hb8⟩
    have hb78 := below_alloc1 hb8
    have hbb8 := below_then hbb7 hb78 hbb7.size
    clear hb8 g7 HSM
    have z1 : ((0 + k : Nat) : Int) ≤ 40 * (np : Int) := by have := HKK.out; omega
    have z2 : 40 * (np : Int) ≤ 2000 := by omega
    go_wp2_with fail
    refine (HOPS7.out _ hb78).mono ?_
    rintro e w9 ⟨rfl, rfl⟩
    go_wp2
    go_ret
    exact ⟨ret_bl (decide_eq_true (by omega)), hbb8⟩
  · have HOP := Lib.hid hop
    unfold repZ repC P.Sup.zero
    clear hop
    go_wp2_with fail
    refine (HRO.out _).mono ?_
    rintro e w7 ⟨hb7, ⟨s2, pl2, sl2, st2, bP, dP, bT, dT, bS, dS, bG, dG, hh, ho7, -⟩ | ⟨ho7, rfl⟩⟩
    · rw [HOP.out] at ho7
      cases ho7
    have k7 := made_below hb7
    have g7 := cell_blk k7
    have l7 := lt_of_block k7
    have hb67 := below_alloc1 hb7
    have hbb7 := below_then hbb6 hb67 hbb6.size
    have HOPS7 := Lib.hid (fun wq (hb : Below w7.heap.size w7 wq) => HOPS.out wq (hb67.trans (hb.mono hb67.size)))
    unfold repRZ repR P.Sup.zero
    clear hb7 k7 ho7
    have hne : ¬ w6.heap.size = w7.heap.size := by omega
    have z1 : ((0 + k : Nat) : Int) ≤ 40 * (np : Int) := by have := HKK.out; omega
    have z2 : 40 * (np : Int) ≤ 2000 := by omega
    go_wp2_with fail
    refine (HOPS7.out _ ((Below.refl _ w7).alloc (Nat.le_refl _) _)).mono ?_
    rintro e w9 ⟨rfl, rfl⟩
    go_wp2
    go_ret
    exact ⟨ret_bl (decide_eq_true (by omega)), hbb7.alloc hbb7.size _⟩
end Go.Proofs.YtnjpaanjgbfbaaaGreat
