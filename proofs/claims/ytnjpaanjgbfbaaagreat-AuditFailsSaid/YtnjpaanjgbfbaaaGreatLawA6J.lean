/- The law of chapter 12: AuditFails. -/
import Derived.Test.YtnjpaanjgbfbaaaGreatJ52
namespace Go.Proofs.YtnjpaanjgbfbaaaGreat
set_option linter.unusedVariables false
set_option linter.unusedSimpArgs false
open Go.RowKit

theorem lost_at {l : List UInt8} {i : Nat} (h : i < l.length) : lostO (l.drop i) = decide (l[i].toNat % 3 = 1) := by
  unfold lostO
  rw [List.drop_eq_getElem_cons h]
  rfl
/-- Open with outcomes, on an image that was built: it fails at the first that is lost, or tells. -/
def FOpen (d np : Nat) (S t : List UInt8) (s : P.Sup) (I outs : List UInt8) (w : World) (e : Ending) (w' : World) : Prop :=
  Chg (OnlyD d) w w' ∧
  ((∃ st k aP cP aT nT cT aS cS aG nG cG, opens np I = some (s, 0, t, st) ∧ S.length = st.ps.length ∧ nT = st.tx.length ∧ nG = (pgsTo st np).length ∧ k ≤ np + 2 ∧ Dev (OnlyD d) w' d np I k (outs.drop k) ∧ CleanO outs k ∧
    e = .returned (.tuple #[.agg (repC s 0 (.slice aP S.length cP) (.slice aT nT cT) (.slice aS t.length cS) (.slice aG nG cG)), .int .i64 0]) ∧ RepRd w' st.ps st.tx t (pgsTo st np) aP aT aS aG) ∨
   (∃ k, k < np + 2 ∧ e = .returned (.tuple #[repZ, .int .i64 7]) ∧ Dev (OnlyD d) w' d np I (k + 1) (outs.drop (k + 1)) ∧ CleanO outs k ∧ lostO (outs.drop k) = true ∧ k < outs.length))
theorem fopen_ok (d np : Nat) (S t : List UInt8) (s : P.Sup) (I outs : List UInt8) (w : World) (hB : Built np S t s I) (h : Dev (OnlyD d) w d np I 0 outs) :
    Calls Tryz.prog 10 #[.pointer (some ⟨d, 0, none⟩)] w (FOpen d np S t s I outs w) := by
  obtain ⟨st0, A4, q1, -, q3, -⟩ := hB
  refine (aopen_any d np I 0 outs w h (by omega)).mono ?_
  rintro e w' ⟨hc, ⟨s', pl, sl, st, vP, vT, vS, vG, hop, rfl, hr, hD, hcl⟩ | ⟨hop, -⟩ | ⟨rfl, k, hk, hD, hcl, hl⟩⟩
  · have := hop.symm.trans q1
    simp only [Option.some.injEq, Prod.mk.injEq] at this
    obtain ⟨rfl, rfl, rfl, rfl⟩ := this
    obtain ⟨aP, cP, aT, cT, aS, cS, aG, cG, rfl, rfl, rfl, rfl, hrr⟩ := hr.rd
    rw [Nat.zero_add] at hD
    exact ⟨hc, .inl ⟨st, _, aP, cP, aT, _, cT, aS, cS, aG, _, cG, hop, q3.symm, rfl, rfl, by have := P.cnt_le np st; omega, hD, hcl, by rw [q3], hrr⟩⟩
  · rw [q1] at hop
    cases hop
  · rw [Nat.zero_add] at hD
    refine ⟨hc, .inr ⟨k, hk, rfl, hD, hcl, hl, ?_⟩⟩
    rcases Nat.lt_or_ge k outs.length with h | h
    · exact h
    · rw [List.drop_eq_nil_of_le h] at hl
      cases hl
/-- What the loop says: is one of the first i lost? Lost is what the walk came to. -/
theorem fails_ok {outs : List UInt8} {k i : Nat} (h : CleanO outs k) (hi : i < k) (hl : i < outs.length) : ((outs[i].toNat : Int) % 3 == 1) = false := by
  have := h i hi
  rw [lost_at hl] at this
  have := of_decide_eq_false this
  simp
  omega
set_option maxRecDepth 100000 in
set_option maxHeartbeats 6400000 in
theorem auditFails_walk (a0 : Option Addr) (n0 c0 : Nat) (l0 : List UInt8) (a1 : Option Addr) (n1 c1 : Nat) (l1 : List UInt8) (a2 : Option Addr) (n2 c2 : Nat) (l2 : List UInt8) (w : World) (h0 : Rd w a0 n0 l0) (k0 : n0 ≤ c0) (h1 : Rd w a1 n1 l1) (k1 : n1 ≤ c1) (h2 : Rd w a2 n2 l2) (k2 : n2 ≤ c2) :
    Calls Tryz.prog 6 #[.slice a0 n0 c0, .slice a1 n1 c1, .slice a2 n2 c2] w fun e w' => e = .returned (.bool true) ∧ Below w.heap.size w w' := by
  have H0 := Lib.hid h0
  have H1 := Lib.hid h1
  have H2 := Lib.hid h2
  have HL0 := Lib.hid h0.1
  have HL1 := Lib.hid h1.1
  have HL2 := Lib.hid h2.1
  clear h0 h1 h2
  by_cases m0 : 60 < n0
  · go_enter Tryz.func6, Tryz.ntmps6
    go_wp2_with fail
    refine (awake12_any _).mono ?_
    rintro e w1 ⟨rfl, hb1⟩
    have i0 : 60 < (n0 : Int) := by omega
    go_wp2
    go_ret
    exact ⟨rfl, hb1⟩
  by_cases m1 : 300 < n1
  · go_enter Tryz.func6, Tryz.ntmps6
    go_wp2_with fail
    refine (awake12_any _).mono ?_
    rintro e w1 ⟨rfl, hb1⟩
    have i0 : ¬ 60 < (n0 : Int) := by omega
    have i1 : 300 < (n1 : Int) := by omega
    go_wp2
    go_ret
    exact ⟨rfl, hb1⟩
  by_cases m2 : 100 < n2
  · go_enter Tryz.func6, Tryz.ntmps6
    go_wp2_with fail
    refine (awake12_any _).mono ?_
    rintro e w1 ⟨rfl, hb1⟩
    have i0 : ¬ 60 < (n0 : Int) := by omega
    have i1 : ¬ 300 < (n1 : Int) := by omega
    have i2 : 100 < (n2 : Int) := by omega
    go_wp2
    go_ret
    exact ⟨rfl, hb1⟩
  have i0 : ¬ 60 < (n0 : Int) := by omega
  have i1 : ¬ 300 < (n1 : Int) := by omega
  have i2 : ¬ 100 < (n2 : Int) := by omega
  go_enter Tryz.func6, Tryz.ntmps6
  go_wp2_with fail
  refine (awake12_any _).mono ?_
  rintro e w1 ⟨rfl, hb1⟩
  have HB := Lib.hid (build_ok 100 l0 l1 a0 n0 c0 a1 n1 c1 4 w1 (H0.out.below hb1) (H1.out.below hb1) k1 (by omega) (by omega) (by omega) (by omega) (by unfold P.needN; omega) (by omega))
  go_wp2_with fail
  refine HB.out.mono ?_
  rintro e w2 ⟨g, s, I, hBu, rfl, him, hb2⟩
  have hbb2 := below_then hb1 hb2 hb1.size
  have HBU := Lib.hid hBu
  have HI2 := Lib.hid him
  clear hBu him hb2 HB
  unfold supV
  go_wp2_with fail
  have hb3 : Below w2.heap.size w2 (w2.alloc (.cells #[.int .i64 s.g, .int .i64 s.p, .int .i64 s.r, .int .i64 s.h, .int .i64 s.b, .int .i64 s.l, .int .i64 s.s, .int .i64 s.f] 25)) := (Below.refl _ w2).alloc (Nat.le_refl _) _
  generalize w2.alloc (.cells #[.int .i64 s.g, .int .i64 s.p, .int .i64 s.r, .int .i64 s.h, .int .i64 s.b, .int .i64 s.l, .int .i64 s.s, .int .i64 s.f] 25) = w3 at *
  have hbb3 := below_then hbb2 hb3 hbb2.size
  have HI3 := Lib.hid (HI2.out.below hb3)
  have HL := Lib.hid (load_any (some ⟨g, 0, none⟩) (100 * 256) (100 * 256) 100 I w3 HI3.out.rd.1 (Nat.le_refl _) (by omega) (by omega) (by omega))
  clear hb3
  refine HL.out.mono ?_
  rintro e w4 ⟨d, rfl, hd, hD, hb4⟩
  have hbb4 := below_then hbb3 hb4 hbb3.size
  have HI4 := Lib.hid (HI3.out.below hb4)
  have HD := Lib.hid (show w3.heap.size ≤ d from hd)
  have HGD := Lib.hid (show g ≠ d by have := HI3.out.ge; omega)
  have HOC := Lib.hid (doutc_any (OnlyD d) d 100 0 I [] l2 a2 n2 c2 w4 hD (fun j e => by unfold OnlyD at e; rw [e]; exact hD.lt) (H2.out.below hbb4) (by simp; omega))
  clear hd hD hb4 HL
  go_wp2_with fail
  refine HOC.out.mono ?_
  rintro e w5 ⟨rfl, hD5, hc5⟩
  rw [List.nil_append] at hD5
  have hbb5 := below_chg hbb4 hc5 hbb4.size (fun i e => by have := HD.out; have := hbb3.size; omega)
  have HI5 := Lib.hid (HI4.out.chg hc5 (fun e => HGD.out e))
  have HO := Lib.hid (fopen_ok d 100 l0 l1 s I l2 w5 HBU.out hD5)
  clear hD5 hc5 HOC
  go_wp2_with fail
  refine HO.out.mono ?_
  rintro e w6 ⟨hc6, hcase⟩
  have hbb6 := below_chg hbb5 hc6 hbb5.size (fun i e => by have := HD.out; have := hbb3.size; unfold OnlyD at e; omega)
  have HI6 := Lib.hid (HI5.out.chg hc6 (fun e => HGD.out e))
  have HC2 := Lib.hid (fun wq (hb : Below w6.heap.size w6 wq) => H2.out.below (below_then hbb6 hb hbb6.size))
  clear hc6 HO
  rcases hcase with ⟨st, k, aP, cP, aT, nT, cT, aS, cS, aG, nG, cG, ho6, e1, e2, e3, hk, hD6, hcl, rfl, hr6⟩ | ⟨k, hk, rfl, hD6, hcl, hlo, hkl⟩
  · rw [HL0.out, HL1.out]
    rw [HL0.out] at e1
    have HR6 := Lib.hid hr6
    have HE := Lib.hid (show n0 = st.ps.length ∧ nT = st.tx.length ∧ nG = (pgsTo st 100).length ∧ opens 100 I = some (s, 0, l1, st) from ⟨e1, e2, e3, ho6⟩)
    have HCL := Lib.hid hcl
    have HOPS := Lib.hid (fun wq (hb : Below w6.heap.size w6 wq) => dops_any (OnlyD d) d 100 k I (l2.drop k) wq (hD6.below hb))
    have HIMG := Lib.hid (fun wq (hb : Below w6.heap.size w6 wq) => dimage_any (OnlyD d) d 100 k I (l2.drop k) wq (hD6.below hb))
    unfold repC
    clear hr6 ho6 e1 e2 e3 hcl hD6
    go_wp2_with fail
    have hb7 : ∀ o : Obj, Below w6.heap.size w6 (w6.alloc o) := fun o => (Below.refl _ w6).alloc (Nat.le_refl _) o
    have k7 : ∀ o : Obj, (w6.alloc o).heap[w6.heap.size]? = some o := fun o => alloc_new _ _ _ rfl
    obtain ⟨o7, ho7⟩ : ∃ o, o = Obj.cells #[.int .i64 s.g, .int .i64 s.p, .int .i64 s.r, .int .i64 s.h, .int .i64 s.b, .int .i64 s.l, .int .i64 s.s, .int .i64 s.f, .int .i64 0, .slice aP n0 cP, .slice aT nT cT, .slice aS n1 cS, .slice aG nG cG] 35 (0, 0) := ⟨_, rfl⟩
    rw [← ho7]
    obtain ⟨w7, hw7⟩ : ∃ w7, w7 = w6.alloc o7 := ⟨_, rfl⟩
    have hb67 := hb7 o7
    have hk7 := k7 o7
    rw [← hw7] at hb67 hk7 ⊢
    rw [ho7] at hk7
    have K7 := Lib.hid hk7
    have hbb7 := below_then hbb6 hb67 hbb6.size
    have HB67 := Lib.hid hb67
    clear hb7 k7 hw7 ho7 hk7 hb67
    go_loopw [13, 14] (fun f i wr => ∃ j : Nat, j ≤ n2 ∧ f = .bool false ∧ i = .int .i64 j ∧ wr = w7) (fun f i _ => n2 - (intOf i).toNat)
    case atStart => exact ⟨0, by omega, rfl, rfl, rfl⟩
    case round =>
      obtain ⟨j, hj, rfl, rfl, rfl⟩ := hrel
      by_cases hlt : j < n2
      · have j1 : (j : Int) < (n2 : Int) := by omega
        by_cases hjk : j < k
        · have j2 : (j : Int) < (k : Int) := by omega
          obtain ⟨q, rfl, hq⟩ := (HC2.out _ HB67.out).at j (by rw [HL2.out]; exact hlt)
          have hfl := fails_ok HCL.out hjk (by rw [HL2.out]; exact hlt)
          unfold bv at hq
          obtain ⟨x, hx⟩ : ∃ x, x = l2[j]'(by rw [HL2.out]; exact hlt) := ⟨_, rfl⟩
          rw [← hx] at hq hfl
          clear hx
          have x1 := x.toNat_lt
          go_wp2_with (go_at_call 15; refine (HOPS.out _ HB67.out).mono ?_; rintro e wx ⟨rfl, rfl⟩)
          exact ⟨⟨j + 1, by omega, rfl, by go_num, trivial⟩, by simp [intOf]; omega⟩
        · have j2 : ¬ (j : Int) < (k : Int) := by omega
          have HI7 := Lib.hid (HI6.out.below HB67.out)
          have HBR := Lib.hid (bropen_ok (some ⟨g, 0, none⟩) (100 * 256) (100 * 256) 100 l0 l1 s I wr HBU.out HI7.out.rd.1 (Nat.le_refl _) (by omega) (by omega) (by omega))
          go_wp2_with (go_at_call 15; refine (HOPS.out _ HB67.out).mono ?_; rintro e wx ⟨rfl, rfl⟩)
          refine HBR.out.mono ?_
          rintro e w8 ⟨hb8, st', bP, dP, bT, mT, dT, bS, dS, bG, mG, dG, hh, ho8, e1, e2, e3, rfl, hr8⟩
          obtain rfl : st' = st := by
            have := ho8.symm.trans HE.out.2.2.2
            simp only [Option.some.injEq, Prod.mk.injEq] at this
            exact this.2.2.2
          rw [HL0.out, HL1.out]
          obtain rfl : mT = nT := by rw [e2, HE.out.2.1]
          obtain rfl : mG = nG := by rw [e3, HE.out.2.2.1]
          have k8 := (hb8.block _ (lt_of_block K7.out)).trans K7.out
          have K8 := Lib.hid k8
          have g8 := cell_blk k8
          have l8 := lt_of_block k8
          have hb68 := HB67.out.trans (hb8.mono HB67.out.size)
          have hbb8 := below_then hbb7 hb8 hbb7.size
          have HI8 := Lib.hid (HI7.out.below hb8)
          have HIM := Lib.hid (fun wq (hb : Below w8.heap.size w8 wq) => HIMG.out wq (hb68.trans (hb.mono hb68.size)))
          have HR68 := Lib.hid (HR6.out.below hb68)
          have HR8 := Lib.hid hr8
          have HSM := Lib.hid (fun wq (hb : Below w8.heap.size w8 wq) => lsame_refl s 0 hh st'.ps st'.tx l1 (pgsTo st' 100) aP aT aS aG bP bT bS bG n0 mT n1 mG cP cT cS cG dP dT dS dG wq HE.out.1 HE.out.2.1 HL1.out.symm HE.out.2.2.1 (HR68.out.below hb) (HR8.out.below hb))
          unfold repC repR at HSM
          unfold repR
          clear hb8 k8 e1 e2 e3 ho8 hr8
          have hne : ¬ w6.heap.size = w8.heap.size := by omega
          go_wp2_with fail
          refine (HIM.out _ ((Below.refl _ w8).alloc (Nat.le_refl _) _)).mono ?_
          rintro e w9 ⟨v9, rfl, ho9, hb9⟩
          obtain ⟨pI, cI, rfl, hrI, -, -, -⟩ := ho9.form
          have k9 := made_below hb9
          have g9 := cell_blk k9
          have K9 := Lib.hid k9
          have l9 := lt_of_block k9
          have hb89 := below_alloc1 hb9
          have h9 := (hb89.block _ l8).trans K8.out
          have K89 := Lib.hid h9
          have g89 := cell_blk h9
          have hbb9 := below_then hbb8 hb89 hbb8.size
          have HSI := Lib.hid (same_refl pI (some ⟨g, 0, none⟩) (100 * 256) cI (100 * 256) I w9 (by have := hrI; rw [HI2.out.len] at this; exact this) (HI8.out.below hb89).rd.1)
          rw [HI2.out.len]
          clear ho9 hrI hb9 k9 h9 g8
          go_wp2_with fail
          refine HSI.out.mono ?_
          rintro e w10 ⟨rfl, hb10⟩
          have k10 := (hb10.block _ l9).trans K9.out
          have h10 := (hb10.block _ (lt_of_block K89.out)).trans K89.out
          have g10 := cell_blk k10
          have gh10 := cell_blk h10
          have hbb10 := below_then hbb9 hb10 hbb9.size
          have hb810 := hb89.trans (hb10.mono hb89.size)
          clear g9 g89 k10 h10
          go_wp2_with fail
          refine (HSM.out _ hb810).mono ?_
          rintro e w11 ⟨rfl, hb11⟩
          have hbb11 := below_then hbb10 hb11 hbb10.size
          clear g10 gh10
          go_wp2
          go_ret
          exact ⟨rfl, hbb11⟩
      · have j1 : ¬ (j : Int) < (n2 : Int) := by omega
        have HI7 := Lib.hid (HI6.out.below HB67.out)
        have HBR := Lib.hid (bropen_ok (some ⟨g, 0, none⟩) (100 * 256) (100 * 256) 100 l0 l1 s I wr HBU.out HI7.out.rd.1 (Nat.le_refl _) (by omega) (by omega) (by omega))
        go_wp2_with (go_at_call 15; refine (HOPS.out _ HB67.out).mono ?_; rintro e wx ⟨rfl, rfl⟩)
        refine HBR.out.mono ?_
        rintro e w8 ⟨hb8, st', bP, dP, bT, mT, dT, bS, dS, bG, mG, dG, hh, ho8, e1, e2, e3, rfl, hr8⟩
        obtain rfl : st' = st := by
          have := ho8.symm.trans HE.out.2.2.2
          simp only [Option.some.injEq, Prod.mk.injEq] at this
          exact this.2.2.2
        rw [HL0.out, HL1.out]
        obtain rfl : mT = nT := by rw [e2, HE.out.2.1]
        obtain rfl : mG = nG := by rw [e3, HE.out.2.2.1]
        have k8 := (hb8.block _ (lt_of_block K7.out)).trans K7.out
        have K8 := Lib.hid k8
        have g8 := cell_blk k8
        have l8 := lt_of_block k8
        have hb68 := HB67.out.trans (hb8.mono HB67.out.size)
        have hbb8 := below_then hbb7 hb8 hbb7.size
        have HI8 := Lib.hid (HI7.out.below hb8)
        have HIM := Lib.hid (fun wq (hb : Below w8.heap.size w8 wq) => HIMG.out wq (hb68.trans (hb.mono hb68.size)))
        have HR68 := Lib.hid (HR6.out.below hb68)
        have HR8 := Lib.hid hr8
        have HSM := Lib.hid (fun wq (hb : Below w8.heap.size w8 wq) => lsame_refl s 0 hh st'.ps st'.tx l1 (pgsTo st' 100) aP aT aS aG bP bT bS bG n0 mT n1 mG cP cT cS cG dP dT dS dG wq HE.out.1 HE.out.2.1 HL1.out.symm HE.out.2.2.1 (HR68.out.below hb) (HR8.out.below hb))
        unfold repC repR at HSM
        unfold repR
        clear hb8 k8 e1 e2 e3 ho8 hr8
        have hne : ¬ w6.heap.size = w8.heap.size := by omega
        go_wp2_with fail
        refine (HIM.out _ ((Below.refl _ w8).alloc (Nat.le_refl _) _)).mono ?_
        rintro e w9 ⟨v9, rfl, ho9, hb9⟩
        obtain ⟨pI, cI, rfl, hrI, -, -, -⟩ := ho9.form
        have k9 := made_below hb9
        have g9 := cell_blk k9
        have K9 := Lib.hid k9
        have l9 := lt_of_block k9
        have hb89 := below_alloc1 hb9
        have h9 := (hb89.block _ l8).trans K8.out
        have K89 := Lib.hid h9
        have g89 := cell_blk h9
        have hbb9 := below_then hbb8 hb89 hbb8.size
        have HSI := Lib.hid (same_refl pI (some ⟨g, 0, none⟩) (100 * 256) cI (100 * 256) I w9 (by have := hrI; rw [HI2.out.len] at this; exact this) (HI8.out.below hb89).rd.1)
        rw [HI2.out.len]
        clear ho9 hrI hb9 k9 h9 g8
        go_wp2_with fail
        refine HSI.out.mono ?_
        rintro e w10 ⟨rfl, hb10⟩
        have k10 := (hb10.block _ l9).trans K9.out
        have h10 := (hb10.block _ (lt_of_block K89.out)).trans K89.out
        have g10 := cell_blk k10
        have gh10 := cell_blk h10
        have hbb10 := below_then hbb9 hb10 hbb9.size
        have hb810 := hb89.trans (hb10.mono hb89.size)
        clear g9 g89 k10 h10
        go_wp2_with fail
        refine (HSM.out _ hb810).mono ?_
        rintro e w11 ⟨rfl, hb11⟩
        have hbb11 := below_then hbb10 hb11 hbb10.size
        clear g10 gh10
        go_wp2
        go_ret
        exact ⟨rfl, hbb11⟩
  · have HCL := Lib.hid hcl
    have HLO := Lib.hid hlo
    have HKL := Lib.hid (show k < n2 by rw [← HL2.out]; exact hkl)
    have HOPS := Lib.hid (fun wq (hb : Below w6.heap.size w6 wq) => dops_any (OnlyD d) d 100 (k + 1) I (l2.drop (k + 1)) wq (hD6.below hb))
    have HIMG := Lib.hid (fun wq (hb : Below w6.heap.size w6 wq) => dimage_any (OnlyD d) d 100 (k + 1) I (l2.drop (k + 1)) wq (hD6.below hb))
    unfold repZ repC P.Sup.zero
    clear hcl hlo hkl hD6
    go_wp2_with fail
    have hb7 : ∀ o : Obj, Below w6.heap.size w6 (w6.alloc o) := fun o => (Below.refl _ w6).alloc (Nat.le_refl _) o
    have k7 : ∀ o : Obj, (w6.alloc o).heap[w6.heap.size]? = some o := fun o => alloc_new _ _ _ rfl
    obtain ⟨o7, ho7⟩ : ∃ o, o = Obj.cells #[.int .i64 0, .int .i64 0, .int .i64 0, .int .i64 0, .int .i64 0, .int .i64 0, .int .i64 0, .int .i64 0, .int .i64 0, .slice none 0 0, .slice none 0 0, .slice none 0 0, .slice none 0 0] 35 (0, 0) := ⟨_, rfl⟩
    rw [← ho7]
    obtain ⟨w7, hw7⟩ : ∃ w7, w7 = w6.alloc o7 := ⟨_, rfl⟩
    have hb67 := hb7 o7
    have hk7 := k7 o7
    rw [← hw7] at hb67 hk7 ⊢
    rw [ho7] at hk7
    have K7 := Lib.hid hk7
    have hbb7 := below_then hbb6 hb67 hbb6.size
    have HB67 := Lib.hid hb67
    clear hb7 k7 hw7 ho7 hk7 hb67
    go_loopw [13, 14] (fun f i wr => ∃ j : Nat, j ≤ k + 1 ∧ f = .bool (decide (k < j)) ∧ i = .int .i64 j ∧ wr = w7) (fun f i _ => n2 - (intOf i).toNat)
    case atStart => exact ⟨0, by omega, rfl, rfl, rfl⟩
    case round =>
      obtain ⟨j, hj, rfl, rfl, rfl⟩ := hrel
      have hk2 : k < n2 := HKL.out
      by_cases hlt : j ≤ k
      · have j1 : (j : Int) < (n2 : Int) := by omega
        have j2 : (j : Int) < ((k + 1 : Nat) : Int) := by omega
        have j3 : decide (k < j) = false := decide_eq_false (by omega)
        obtain ⟨q, rfl, hq⟩ := (HC2.out _ HB67.out).at j (by rw [HL2.out]; omega)
        have hfl : ((((l2[j]'(by rw [HL2.out]; omega)).toNat : Nat) : Int) % 3 == 1) = decide (k < j + 1) := by
          rcases Nat.lt_or_ge j k with h | h
          · rw [fails_ok HCL.out h (by rw [HL2.out]; omega)]
            exact (decide_eq_false (by omega)).symm
          · obtain rfl : j = k := by omega
            have := HLO.out
            rw [lost_at (by rw [HL2.out]; omega)] at this
            have := of_decide_eq_true this
            rw [decide_eq_true (show j < j + 1 by omega)]
            simp
            omega
        unfold bv at hq
        obtain ⟨x, hx⟩ : ∃ x, x = l2[j]'(by rw [HL2.out]; omega) := ⟨_, rfl⟩
        rw [← hx] at hq hfl
        clear hx
        have x1 := x.toNat_lt
        rw [j3]
        obtain ⟨B, hB⟩ : ∃ B, B = decide (k < j + 1) := ⟨_, rfl⟩
        rw [← hB] at hfl
        have HBB := Lib.hid hB
        clear hB j3
        go_wp2_with (go_at_call 15; refine (HOPS.out _ HB67.out).mono ?_; rintro e wx ⟨rfl, rfl⟩)
        exact ⟨⟨j + 1, by omega, by rw [HBB.out], by go_num, trivial⟩, by simp [intOf]; omega⟩
      · obtain rfl : j = k + 1 := by omega
        have j3 : decide (k < k + 1) = true := decide_eq_true (by omega)
        rw [j3]
        obtain ⟨K1, hK1⟩ : ∃ K1, K1 = k + 1 := ⟨_, rfl⟩
        rw [← hK1] at HOPS hj ⊢
        clear hlt j3
        by_cases hz : K1 < n2
        · have j1 : (K1 : Int) < (n2 : Int) := by omega
          clear hK1
          have HI7 := Lib.hid (HI6.out.below HB67.out)
          have HBR := Lib.hid (bropen_ok (some ⟨g, 0, none⟩) (100 * 256) (100 * 256) 100 l0 l1 s I wr HBU.out HI7.out.rd.1 (Nat.le_refl _) (by omega) (by omega) (by omega))
          go_wp2_with (go_at_call 15; refine (HOPS.out _ HB67.out).mono ?_; rintro e wx ⟨rfl, rfl⟩)
          refine HBR.out.mono ?_
          rintro e w8 ⟨hb8, st', bP, dP, bT, mT, dT, bS, dS, bG, mG, dG, hh, ho8, e1, e2, e3, rfl, hr8⟩
          rw [HL0.out, HL1.out]
          have k8 := (hb8.block _ (lt_of_block K7.out)).trans K7.out
          have K8 := Lib.hid k8
          have g8 := cell_blk k8
          have l8 := lt_of_block k8
          have hb68 := HB67.out.trans (hb8.mono HB67.out.size)
          have hbb8 := below_then hbb7 hb8 hbb7.size
          have HI8 := Lib.hid (HI7.out.below hb8)
          have HIM := Lib.hid (fun wq (hb : Below w8.heap.size w8 wq) => HIMG.out wq (hb68.trans (hb.mono hb68.size)))
          unfold repR
          clear hb8 k8 e1 e2 e3 ho8 hr8
          have hne : ¬ w6.heap.size = w8.heap.size := by omega
          go_wp2_with fail
          refine (HIM.out _ ((Below.refl _ w8).alloc (Nat.le_refl _) _)).mono ?_
          rintro e w9 ⟨v9, rfl, ho9, hb9⟩
          obtain ⟨pI, cI, rfl, hrI, -, -, -⟩ := ho9.form
          have k9 := made_below hb9
          have g9 := cell_blk k9
          have K9 := Lib.hid k9
          have l9 := lt_of_block k9
          have hb89 := below_alloc1 hb9
          have h9 := (hb89.block _ l8).trans K8.out
          have K89 := Lib.hid h9
          have g89 := cell_blk h9
          have hbb9 := below_then hbb8 hb89 hbb8.size
          have HSI := Lib.hid (same_refl pI (some ⟨g, 0, none⟩) (100 * 256) cI (100 * 256) I w9 (by have := hrI; rw [HI2.out.len] at this; exact this) (HI8.out.below hb89).rd.1)
          rw [HI2.out.len]
          clear ho9 hrI hb9 k9 h9 g8
          go_wp2_with fail
          refine HSI.out.mono ?_
          rintro e w10 ⟨rfl, hb10⟩
          have k10 := (hb10.block _ l9).trans K9.out
          have h10 := (hb10.block _ (lt_of_block K89.out)).trans K89.out
          have g10 := cell_blk k10
          have gh10 := cell_blk h10
          have hbb10 := below_then hbb9 hb10 hbb9.size
          have hb810 := hb89.trans (hb10.mono hb89.size)
          clear g9 g89 k10 h10
          go_wp2
          go_ret
          exact ⟨rfl, hbb10⟩
        · have j1 : ¬ (K1 : Int) < (n2 : Int) := by omega
          clear hK1
          have HI7 := Lib.hid (HI6.out.below HB67.out)
          have HBR := Lib.hid (bropen_ok (some ⟨g, 0, none⟩) (100 * 256) (100 * 256) 100 l0 l1 s I wr HBU.out HI7.out.rd.1 (Nat.le_refl _) (by omega) (by omega) (by omega))
          go_wp2_with (go_at_call 15; refine (HOPS.out _ HB67.out).mono ?_; rintro e wx ⟨rfl, rfl⟩)
          refine HBR.out.mono ?_
          rintro e w8 ⟨hb8, st', bP, dP, bT, mT, dT, bS, dS, bG, mG, dG, hh, ho8, e1, e2, e3, rfl, hr8⟩
          rw [HL0.out, HL1.out]
          have k8 := (hb8.block _ (lt_of_block K7.out)).trans K7.out
          have K8 := Lib.hid k8
          have g8 := cell_blk k8
          have l8 := lt_of_block k8
          have hb68 := HB67.out.trans (hb8.mono HB67.out.size)
          have hbb8 := below_then hbb7 hb8 hbb7.size
          have HI8 := Lib.hid (HI7.out.below hb8)
          have HIM := Lib.hid (fun wq (hb : Below w8.heap.size w8 wq) => HIMG.out wq (hb68.trans (hb.mono hb68.size)))
          unfold repR
          clear hb8 k8 e1 e2 e3 ho8 hr8
          have hne : ¬ w6.heap.size = w8.heap.size := by omega
          go_wp2_with fail
          refine (HIM.out _ ((Below.refl _ w8).alloc (Nat.le_refl _) _)).mono ?_
          rintro e w9 ⟨v9, rfl, ho9, hb9⟩
          obtain ⟨pI, cI, rfl, hrI, -, -, -⟩ := ho9.form
          have k9 := made_below hb9
          have g9 := cell_blk k9
          have K9 := Lib.hid k9
          have l9 := lt_of_block k9
          have hb89 := below_alloc1 hb9
          have h9 := (hb89.block _ l8).trans K8.out
          have K89 := Lib.hid h9
          have g89 := cell_blk h9
          have hbb9 := below_then hbb8 hb89 hbb8.size
          have HSI := Lib.hid (same_refl pI (some ⟨g, 0, none⟩) (100 * 256) cI (100 * 256) I w9 (by have := hrI; rw [HI2.out.len] at this; exact this) (HI8.out.below hb89).rd.1)
          rw [HI2.out.len]
          clear ho9 hrI hb9 k9 h9 g8
          go_wp2_with fail
          refine HSI.out.mono ?_
          rintro e w10 ⟨rfl, hb10⟩
          have k10 := (hb10.block _ l9).trans K9.out
          have h10 := (hb10.block _ (lt_of_block K89.out)).trans K89.out
          have g10 := cell_blk k10
          have gh10 := cell_blk h10
          have hbb10 := below_then hbb9 hb10 hbb9.size
          have hb810 := hb89.trans (hb10.mono hb89.size)
          clear g9 g89 k10 h10
          go_wp2
          go_ret
          exact ⟨rfl, hbb10⟩
end Go.Proofs.YtnjpaanjgbfbaaaGreat
