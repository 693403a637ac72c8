/- Law 9: PoolPlays. -/
import Derived.Test.YtocepcibcapfbaaGreatJ53
namespace Go.Proofs.YtocepcibcapfbaaGreat
set_option linter.unusedVariables false
set_option linter.unusedSimpArgs false
set_option linter.unusedSectionVars false
open Go.RowKit

/-- The same bytes behind a Pin. -/
theorem pin_same {E : Int} {w : World} {a : Option Addr} {m : Nat} {bs : List UInt8} (h1 : E = 0 → Rd w a m bs) (h2 : E ≠ 0 → a = none ∧ m = 0) : Rd w a m (if E = 0 then bs else []) := by
  by_cases h : E = 0
  · rw [if_pos h]; exact h1 h
  · rw [if_neg h]
    obtain ⟨rfl, rfl⟩ := h2 h
    exact Rd.nil _ _
theorem same_yes (a b : Option Addr) (la lb ca cb : Nat) (l : List UInt8) (w : World) (hl : Rd w a la l) (hk : Rd w b lb l) :
    Calls Tryz.prog 12 #[.slice a la ca, .slice b lb cb] w fun e w' => e = .returned (.bool true) ∧ Below w.heap.size w w' := by
  have h := same_b a b la lb ca cb l l w hl hk
  rw [decide_eq_true rfl] at h
  exact h
theorem PlS.below {w0 w w' : World} {p d q m N i : Nat} (h : PlS w0 p d q m N i w) (hb : Below w.heap.size w w') : PlS w0 p d q m N i w' := by
  obtain ⟨I, x, hP, hR, h1, h2⟩ := h
  exact ⟨I, x, (hP.below hb).pool, hR.below hb, h1, h2⟩
/-- What is told of a pool and of the document's. -/
structure PxR (w0 : World) (p d q m N : Nat) (R D : List Nat) (PN OP : Nat) (IM : List UInt8) (w : World) : Prop where
  a1 : Calls Tryz.prog 28 #[.pointer (some ⟨p, 0, none⟩)] w fun e w' => ∃ v, e = .returned v ∧ ∃ a cp, v = .slice a R.length cp ∧ RI w' a R.length (R.map Int.ofNat) ∧ Below w.heap.size w w'
  a2 : Calls Tryz.prog 29 #[.pointer (some ⟨q, 0, none⟩)] w fun e w' => ∃ v, e = .returned v ∧ ∃ a cp, v = .slice a R.length cp ∧ RI w' a R.length (R.map Int.ofNat) ∧ Below w.heap.size w w'
  a3 : Calls Tryz.prog 30 #[.pointer (some ⟨p, 0, none⟩)] w fun e w' => ∃ v, e = .returned v ∧ ∃ a cp, v = .slice a D.length cp ∧ RI w' a D.length (D.map Int.ofNat) ∧ Below w.heap.size w w'
  a4 : Calls Tryz.prog 31 #[.pointer (some ⟨q, 0, none⟩)] w fun e w' => ∃ v, e = .returned v ∧ ∃ a cp, v = .slice a D.length cp ∧ RI w' a D.length (D.map Int.ofNat) ∧ Below w.heap.size w w'
  a5 : Calls Tryz.prog 32 #[.pointer (some ⟨p, 0, none⟩)] w fun e w' => ∃ v, e = .returned v ∧ v = .int .i64 (PN : Int) ∧ Below w.heap.size w w'
  a6 : Calls Tryz.prog 33 #[.pointer (some ⟨q, 0, none⟩)] w fun e w' => ∃ v, e = .returned v ∧ v = .int .i64 (PN : Int) ∧ Below w.heap.size w w'
  a7 : Calls Tryz.prog 34 #[.pointer (some ⟨d, 0, none⟩)] w fun e w' => ∃ v, e = .returned v ∧ v = .int .i64 (OP : Int) ∧ Below w.heap.size w w'
  a8 : w.cell? ⟨m, 5, none⟩ = some (.int .i64 (OP : Int))
  a9 : Calls Tryz.prog 35 #[.pointer (some ⟨d, 0, none⟩)] w fun e w' => ∃ v, e = .returned v ∧ ∃ a n cp, v = .slice a n cp ∧ Rd w' a n IM ∧ Below w.heap.size w w'
  a10 : Calls Tryz.prog 36 #[.pointer (some ⟨m, 0, none⟩)] w fun e w' => ∃ v, e = .returned v ∧ ∃ a n cp, v = .slice a n cp ∧ Rd w' a n IM ∧ Below w.heap.size w w'
theorem PxR.of [Inhabited AvT] {w0 w : World} {p d q m N c : Nat} {x : P.Po} (h1 : PoL w0.heap.size c w0 w p d 20 N x) (h2 : RfP w0.heap.size w q m 20 N x) : PxR w0 p d q m N (x.res 20) (x.dirt 20) x.pinned x.d.ops x.d.img w :=
  ⟨(lresident h1).mono fun e w' ⟨a, cp, e1, e2, _, e4⟩ => ⟨_, e1, a, cp, rfl, e2, e4⟩, (rresident_any h2).mono fun e w' h => by obtain ⟨a, cp, e1, e2, -, e4⟩ := rs_form h; exact ⟨_, e1, a, cp, rfl, e2, e4⟩,
    (ldirty h1).mono fun e w' ⟨a, cp, e1, e2, _, e4⟩ => ⟨_, e1, a, cp, rfl, e2, e4⟩, (rdirty_any h2).mono fun e w' h => by obtain ⟨a, cp, e1, e2, -, e4⟩ := rs_form h; exact ⟨_, e1, a, cp, rfl, e2, e4⟩,
    (lpinned h1).mono fun e w' h => ⟨_, h.1, rfl, h.2⟩, (rpinnedx h2).mono fun e w' h => ⟨_, h.1, rfl, h.2⟩, (lops h1).mono fun e w' h => ⟨_, h.1, rfl, h.2⟩, h2.opsC.1, (limage h1).mono fun e w' ⟨a, n, cp, e1, e2, e3⟩ => ⟨_, e1, a, n, cp, rfl, e2, e3⟩, (rimagex h2).mono fun e w' ⟨a, n, cp, e1, e2, e3⟩ => ⟨_, e1, a, n, cp, rfl, e2, e3⟩⟩
set_option maxRecDepth 100000 in
set_option maxHeartbeats 25600000 in
theorem poolPlays_walk (fr : Int) (a : Option Addr) (n cap : Nat) (l : List Deed) (w : World) (hfr : -9223372036854775808 ≤ fr ∧ fr ≤ 9223372036854775807) (hl : RD w a n l) (hcap : n ≤ cap) : Calls Tryz.prog 3 #[.int .i64 fr, .slice a n cap] w fun e w' => e = .returned (.bool true) ∧ Below w.heap.size w w' := by
  have HA := Lib.hid (awake9_any w)
  have HL := Lib.hid hl
  have HLN := Lib.hid hl.len
  have HFR := Lib.hid (show inI fr from hfr)
  have hnm : (n : Int) ≤ 9223372036854775807 := by have := hl.1.2.1; unfold maxLen at this; omega
  clear hl hfr
  go_enter Tryz.func3, Tryz.ntmps3
  go_wp2_with fail
  refine HA.out.mono ?_
  rintro e w1 ⟨rfl, hb1⟩
  have HB1 := Lib.hid hb1
  obtain ⟨I, hI⟩ : ∃ I : Inhabited AvT, ∀ k, ¬ @av I k := ⟨⟨⟨fun _ => False⟩⟩, fun _ h => h⟩
  have HAV := Lib.hid (show ∀ w : World, ∀ k, av k → k < w.heap.size from fun w k h => absurd h (hI k))
  have HRM := Lib.hid (room9_any a n cap l w1 (HL.out.below hb1))
  clear hI hb1
  go_wp2_with fail
  refine HRM.out.mono ?_
  rintro e w2 ⟨r, rfl, hroom, hb2⟩
  have HB2 := Lib.hid (below_then HB1.out hb2 HB1.out.size)
  have HRB := Lib.hid hroom
  clear hroom hb2
  rcases r with _ | _
  · go_wp2
    go_ret
    exact ⟨rfl, HB2.out⟩
  have HRB2 := Lib.hid (HRB.out rfl)
  clear HRB
  have hn200 : (n : Int) ≤ 200 := by have h1 := HRB2.out.1; have h2 := HLN.out; omega
  have H1 := Lib.hid (lnew w w2 20 HB2.out (by omega) (by omega) (HAV.out _))
  go_wp2_with fail
  refine H1.out.mono ?_
  rintro e w3 ⟨d, rfl, hD, hb3⟩
  have HD := Lib.hid hD
  have HB3 := Lib.hid hb3
  have H2 := Lib.hid (rnew_any w.heap.size 20 w3 hb3.size (by omega) (by omega) (HAV.out _))
  clear hD hb3
  go_wp2_with fail
  refine H2.out.mono ?_
  rintro e w4 ⟨m, LS, vS, vN, LN, rfl, hm4, hN4, hb4⟩
  have HB4 := Lib.hid (below_then HB3.out hb4 HB3.out.size)
  have HD4 := Lib.hid (HD.out.below hb4)
  have HR4 := Lib.hid (hN4.rfd (by omega) (by omega))
  clear hm4 hN4 hb4
  by_cases hfr : 8 ≤ fr ∧ fr ≤ 4096
  rotate_left
  · have H5 := Lib.hid (pnew_no (.pointer (some ⟨d, 0, none⟩)) (.inr ⟨d, rfl⟩) fr w4 (.inr hfr))
    have HF := Lib.hid hfr
    clear hfr
    go_wp2_with fail
    refine H5.out.mono ?_
    rintro e w5 ⟨rfl, hw5⟩
    rw [← hw5]
    clear hw5
    have H6 := Lib.hid (rnewpool_any (x := ⟨dv0 20, []⟩) HR4.out rfl (dv0_img 20) fr HFR.out HB4.out.size)
    have HB5 := Lib.hid HB4.out
    go_wp2_with fail
    refine H6.out.mono ?_
    rintro e w6 (⟨h1, rfl, hb6⟩ | ⟨h1, -⟩)
    · have HB6 := Lib.hid (below_then HB5.out hb6 HB5.out.size)
      clear h1 hb6
      go_wp2
      go_ret
      exact ⟨rfl, HB6.out⟩
    · exact absurd h1 HF.out
  obtain ⟨N, rfl⟩ : ∃ N : Nat, fr = (N : Int) := ⟨fr.toNat, by omega⟩
  have HNN := Lib.hid (show 8 ≤ N ∧ N ≤ 4096 by omega)
  have H5 := Lib.hid (pnew_ok w.heap.size d 20 N (dv0 20) w4 HD4.out HB4.out.size HNN.out ⟨by omega, by omega⟩)
  clear hfr
  go_wp2_with fail
  refine H5.out.mono ?_
  rintro e w5 ⟨p, rfl, -, hP5, hb5⟩
  have HP5 := Lib.hid hP5
  have HB5 := Lib.hid (below_then HB4.out hb5 HB4.out.size)
  have H6 := Lib.hid (rnewpool_any (x := ⟨dv0 20, []⟩) (HR4.out.below hb5) rfl (dv0_img 20) (N : Int) HFR.out HB5.out.size)
  clear hP5 hb5
  go_wp2_with fail
  refine H6.out.mono ?_
  rintro e w6 (⟨h1, -, -⟩ | ⟨-, q, rfl, hR6, hb6⟩)
  · have h2 := HNN.out
    exact absurd (by omega) h1
  have HST := Lib.hid (show PlS w p d q m N 0 w6 from ⟨I, ⟨dv0 20, []⟩, ⟨below_then HB5.out hb6 HB5.out.size, p, HP5.out.below hb6⟩, by rw [Int.toNat_natCast] at hR6; exact hR6, Nat.le_refl _, Nat.le_refl _⟩)
  clear hR6 hb6 HA HAV HB1 HRM HB2 H1 HD HB3 H2 HB4 HD4 HR4 HNN H5 HP5 HB5 H6
  clear I
  go_wp2
  go_loopw [13] (fun s13 wr => ∃ i : Nat, i ≤ n ∧ s13 = .int .i64 i ∧ PlS w p d q m N i wr) (fun s13 _ => n - (intOf s13).toNat)
  case atStart => exact ⟨0, Nat.zero_le _, rfl, HST.out⟩
  case round =>
    clear HST
    obtain ⟨i, hi, rfl, I, x, hP, hR, ho1, ho2⟩ := hrel
    by_cases hlt : i < n
    · have i0 : (0 : Int) ≤ (i : Int) := by omega
      have i1 : (i : Int) < (n : Int) := by omega
      have hil : i < l.length := by rw [HLN.out]; exact hlt
      obtain ⟨pl, hpl, hc0, hc1, hc2, hc3, hc4⟩ := (HL.out.below hP.1).at i hil
      have hok := HL.out.2 l[i] (List.getElem_mem _)
      have hrb := HRB2.out.2 l[i] (List.getElem_mem _)
      subst hpl
      generalize l[i] = z at hc0 hc1 hc2 hc3 hc4 hok hrb
      obtain ⟨zd, zn, zp, zf, zb⟩ := z
      simp only at hc0 hc1 hc2 hc3 hc4
      obtain ⟨ab, mb, cb, bs, hbb, hbs0, -⟩ := hok.b
      simp only at hbb
      subst hbb
      have hbs := hbs0.below hP.1
      have hbA : ∀ W, Below w.heap.size w W → Rd W ab mb bs := fun W hb => hbs0.below hb
      have HZ := Lib.hid (show inI zn ∧ inI zp ∧ zn ≤ 1048576 ∧ mb ≤ 100 from ⟨hok.n, hok.p, hrb.2, hrb.1 ab mb cb rfl⟩)
      clear hok hrb hil
      obtain ⟨wx, hwx⟩ : ∃ wx, wx = wr.alloc (.cells #[.int .i64 zd, .int .i64 zn, .int .i64 zp, .int .u8 (zf.toNat : Int), .slice ab mb cb] 40) := ⟨_, rfl⟩
      have hbl : Below wr.heap.size wr wx := by rw [hwx]; exact (Below.refl _ wr).alloc (Nat.le_refl _) _
      have hbx : wx.heap[wr.heap.size]? = some (.cells #[.int .i64 zd, .int .i64 zn, .int .i64 zp, .int .u8 (zf.toNat : Int), .slice ab mb cb] 40 (0, 0)) := by rw [hwx]; exact alloc_new _ _ _ rfl
      have hcx := cell_blk hbx
      have b0 : wx.cell? ⟨wr.heap.size, 0, none⟩ = some (.int .i64 zd) := hcx 0
      have b1 : wx.cell? ⟨wr.heap.size, 1, none⟩ = some (.int .i64 zn) := hcx 1
      have b2 : wx.cell? ⟨wr.heap.size, 2, none⟩ = some (.int .i64 zp) := hcx 2
      have b3 : wx.cell? ⟨wr.heap.size, 3, none⟩ = some (.int .u8 (zf.toNat : Int)) := hcx 3
      have b4 : wx.cell? ⟨wr.heap.size, 4, none⟩ = some (.slice ab mb cb) := hcx 4
      obtain ⟨g, hg⟩ : ∃ g, g = wr.heap.size := ⟨_, rfl⟩
      have hc200 : i + 1 ≤ 200 := by omega
      have HPX := Lib.hid ((hP.below hbl).pool.mono2 (Nat.le_succ i) (by omega))
      have HPX0 := Lib.hid (hP.below hbl).pool
      have HRX := Lib.hid (hR.below hbl)
      have HBX := Lib.hid hbx
      have HOO := Lib.hid (And.intro ho1 (And.intro ho2 (And.intro hc200 hP.ok)))
      have HBS := Lib.hid (show Rd wx ab mb bs from hbs.below hbl)
      have HBA := Lib.hid (show ∀ W, Below w.heap.size w W → Rd W ab mb bs from hbA)
      have HIN0 := Lib.hid (And.intro hi hlt)
      clear hP hR ho1 ho2 hbx hcx hbs hbs0 hbA hbl hc200 hi hlt
      go_upto_block 2 with fail
      rw [← hwx]
      rw [← hg] at b0 b1 b2 b3 b4 HBX ⊢
      clear hwx hg hc0 hc1 hc2 hc3 hc4
      go_cut [15] from 76 to 195 (fun s15 wv => s15 = .bool true ∧ PlS w p d q m N (i + 1) wv)
      case first =>
        have hzn := HZ.out.1
        have hzp := HZ.out.2.1
        have HNP := Lib.hid (And.intro hzn hzp)
        clear hzn hzp
        by_cases e2 : zd ≤ 2
        · as_aux_lemma =>
            skip
            have HV := Lib.hid (show (x.pinP N 20 zp).d.ops ≤ 40 * (i + 1) ∧ (x.pinP N 20 zp).d.outs.length ≤ 100 * (i + 1) from ⟨by have h0 := P.pin_ops N 20 x zp; have h1 := HOO.out.1; have h2 := HOO.out.2.2.1; omega, by have h0 := P.pin_outs N 20 x zp; have h1 := HOO.out.2.1; omega⟩)
            have HPR := Lib.hid (lpin HPX0.out zp HNP.out.2 (by have h1 := HOO.out.1; have h2 := HOO.out.2.2.1; omega) (by have h2 := HOO.out.2.2.1; omega) _ _ rfl rfl)
            obtain ⟨E, hE⟩ : ∃ E, E = x.pinE N 20 zp := ⟨_, rfl⟩
            rw [← hE] at HPR
            have HE := Lib.hid hE
            clear hE
            go_wp2_with fail
            refine HPR.out.mono ?_
            rintro e wp ⟨a6, m6, c6, rfl, hr6, hr7, hG⟩
            have HP1 := Lib.hid hG.pool
            have HR1 := Lib.hid (hG.rf HRX.out)
            have hx1 := hG.box _ _ _ HBX.out (by unfold poT devT; decide) (by decide) (by decide)
            have d1 : wp.cell? ⟨g, 1, none⟩ = some (.int .i64 zn) := cell_blk hx1 1
            have d2 : wp.cell? ⟨g, 2, none⟩ = some (.int .i64 zp) := cell_blk hx1 2
            have HBY := Lib.hid (pin_same (fun e => (hr6 e).1) hr7)
            have HBZ := Lib.hid (show E = 0 → RB wp a6 m6 (x.pinB N 20 zp) from hr6)
            clear hr6 hr7
            clear hG hx1
            have HRF := Lib.hid (rpin_any HR1.out zp HNP.out.2 (by have h1 := HOO.out.1; have h2 := HOO.out.2.2.1; omega) (fun f hf => by have h1 := HPX0.out.pins f hf; have h2 := HOO.out.2.2.1; omega))
            go_wp2_with fail
            refine HRF.out.mono ?_
            rintro e wq ⟨a7, m7, c7, rfl, hs6, hs7, hV⟩
            rw [← HE.out] at hs6 hs7 ⊢
            have HN := Lib.hid (show PlS w p d q m N (i + 1) wq from ⟨I, _, HP1.out.rf hV.2, hV.1, HV.out⟩)
            have hq6 : Rd wq a6 m6 (if E = 0 then x.pinB N 20 zp else []) := by
              by_cases h : E = 0
              · rw [if_pos h]; exact ((HBZ.out h).ty hV.2 (by unfold rpT rfT; decide)).1
              · have h3 := HBY.out
                rw [if_neg h] at h3 ⊢
                obtain ⟨h4, -⟩ := h3
                have h5 : m6 = 0 := by simpa using h4.symm
                rw [h5]
                exact Rd.nil _ _
            have HSM := Lib.hid (same_yes a6 a7 m6 m7 c6 c7 _ wq hq6 (pin_same hs6 hs7))
            clear hs6 hs7 hq6 hV d1 d2
            go_wp2_with fail
            refine HSM.out.mono ?_
            rintro e ws ⟨rfl, hb⟩
            have HM := Lib.hid (HN.out.below hb)
            clear hb
            go_wp2
            go_meet
            case rel => exact ⟨rfl, HM.out⟩
        have f2 : 2 < zd := by omega
        clear e2
        by_cases e4 : zd ≤ 4
        · as_aux_lemma =>
            skip
            have HV := Lib.hid (show (x.unP zp).d.ops ≤ 40 * (i + 1) ∧ (x.unP zp).d.outs.length ≤ 100 * (i + 1) from ⟨by rw [P.un_d]; have h1 := HOO.out.1; have h2 := HOO.out.2.2.1; omega, by rw [P.un_d]; have h1 := HOO.out.2.1; omega⟩)
            obtain ⟨E, hE⟩ : ∃ E, E = x.unE zp := ⟨_, rfl⟩
            have HPR := Lib.hid (lunpin HPX.out zp HNP.out.2 E hE.symm)
            have HE := Lib.hid hE
            clear hE
            go_wp2_with fail
            refine HPR.out.mono ?_
            rintro e wp ⟨rfl, hG⟩
            have HP1 := Lib.hid hG.pool
            have HR1 := Lib.hid (hG.rf HRX.out)
            have hx1 := hG.box _ _ _ HBX.out (by unfold poT devT; decide) (by decide) (by decide)
            have d1 : wp.cell? ⟨g, 1, none⟩ = some (.int .i64 zn) := cell_blk hx1 1
            have d2 : wp.cell? ⟨g, 2, none⟩ = some (.int .i64 zp) := cell_blk hx1 2
            
            clear hG hx1
            have HRF := Lib.hid (runpin_any HR1.out zp HNP.out.2 (fun f hf => by have h1 := HPX0.out.pins f hf; have h2 := HOO.out.2.2.1; omega))
            rw [← HE.out] at HRF
            go_wp2_with fail
            refine HRF.out.mono ?_
            rintro e wq ⟨rfl, hV⟩
            have HN := Lib.hid (show PlS w p d q m N (i + 1) wq from ⟨I, _, HP1.out.rf hV.2, hV.1, HV.out⟩)
            
            clear hV d1 d2
            go_wp2
            go_meet
            case rel => exact ⟨rfl, HN.out⟩
        have f4 : 4 < zd := by omega
        clear e4
        by_cases e7 : zd ≤ 7
        · as_aux_lemma =>
            have HPG := Lib.hid (page5_any zf zn wx HRX.out.avs)
            have HV := Lib.hid (show ∀ b, (x.putP N 20 zp b).d.ops ≤ 40 * (i + 1) ∧ (x.putP N 20 zp b).d.outs.length ≤ 100 * (i + 1) from fun b => ⟨by have h0 := P.put_ops N 20 x zp b; have h1 := HOO.out.1; have h2 := HOO.out.2.2.1; omega, by have h0 := P.put_outs N 20 x zp b; have h1 := HOO.out.2.1; omega⟩)
            go_wp2_with fail
            refine HPG.out.mono ?_
            rintro e w5 ⟨a5, c5, b, rfl, hr5, hl5, -, hb5⟩
            have HP5 := Lib.hid (HPX0.out.below hb5).pool
            have HR5 := Lib.hid (HRX.out.below hb5)
            have hx5 := (hb5.block _ (lt_of_block HBX.out)).trans HBX.out
            have HX5 := Lib.hid hx5
            have t1 : w5.cell? ⟨g, 1, none⟩ = some (.int .i64 zn) := cell_blk hx5 1
            have t2 : w5.cell? ⟨g, 2, none⟩ = some (.int .i64 zp) := cell_blk hx5 2
            have HRB5 := Lib.hid hr5
            have HRN := Lib.hid (show RB w5 none 0 [] from ⟨Rd.nil _ _, fun h => by omega⟩)
            clear hr5 hl5 hb5 hx5
            by_cases e99 : zn = 99
            · subst e99
              obtain ⟨E, hE⟩ : ∃ E, E = x.putE N 20 zp [] := ⟨_, rfl⟩
              have HPR := Lib.hid (lput HP5.out zp HNP.out.2 none 0 0 [] HRN.out (by omega) (by have h1 := HOO.out.1; have h2 := HOO.out.2.2.1; omega) (by have h2 := HOO.out.2.2.1; omega) E hE.symm)
              have HE := Lib.hid hE
              clear hE
              go_wp2_with fail
              refine HPR.out.mono ?_
              rintro e wp ⟨rfl, hG⟩
              have HP1 := Lib.hid hG.pool
              have HR1 := Lib.hid (hG.rf HR5.out)
              have HB1 := Lib.hid (hG.bytes _ _ _ HRN.out)
              have hx1 := hG.box _ _ _ HX5.out (by unfold poT devT; decide) (by decide) (by decide)
              have d2 : wp.cell? ⟨g, 2, none⟩ = some (.int .i64 zp) := cell_blk hx1 2
              have HRF := Lib.hid (rput_any HR1.out zp HNP.out.2 none 0 0 [] HB1.out (by omega) (by have h1 := HOO.out.1; have h2 := HOO.out.2.2.1; omega))
              have HRF2 := Lib.hid (show Calls Tryz.prog 17 #[.pointer (some ⟨q, 0, none⟩), .int .i64 zp, .slice none 0 0] wp fun e w' => e = .returned (.int .i64 E) ∧ RfV w.heap.size q m 20 N (x.putP N 20 zp []) wp w' by rw [HE.out]; exact HRF.out)
              clear hG hx1
              go_wp2_with fail
              refine HRF2.out.mono ?_
              rintro e wq ⟨rfl, hV⟩
              have HN := Lib.hid (show PlS w p d q m N (i + 1) wq from ⟨I, _, HP1.out.rf hV.2, hV.1, HV.out []⟩)
              clear hV d2
              go_wp2
              go_meet
              case rel => exact ⟨rfl, HN.out⟩
            · have z99 : (zn == 99) = false := by simpa using e99
              clear e99
              obtain ⟨E, hE⟩ : ∃ E, E = x.putE N 20 zp b := ⟨_, rfl⟩
              have HPR := Lib.hid (lput HP5.out zp HNP.out.2 a5 256 c5 b HRB5.out (by omega) (by have h1 := HOO.out.1; have h2 := HOO.out.2.2.1; omega) (by have h2 := HOO.out.2.2.1; omega) E hE.symm)
              have HE := Lib.hid hE
              clear hE
              go_wp2_with fail
              refine HPR.out.mono ?_
              rintro e wp ⟨rfl, hG⟩
              have HP1 := Lib.hid hG.pool
              have HR1 := Lib.hid (hG.rf HR5.out)
              have HB1 := Lib.hid (hG.bytes _ _ _ HRB5.out)
              have hx1 := hG.box _ _ _ HX5.out (by unfold poT devT; decide) (by decide) (by decide)
              have d2 : wp.cell? ⟨g, 2, none⟩ = some (.int .i64 zp) := cell_blk hx1 2
              have HRF := Lib.hid (rput_any HR1.out zp HNP.out.2 a5 256 c5 b HB1.out (by omega) (by have h1 := HOO.out.1; have h2 := HOO.out.2.2.1; omega))
              have HRF2 := Lib.hid (show Calls Tryz.prog 17 #[.pointer (some ⟨q, 0, none⟩), .int .i64 zp, .slice a5 256 c5] wp fun e w' => e = .returned (.int .i64 E) ∧ RfV w.heap.size q m 20 N (x.putP N 20 zp b) wp w' by rw [HE.out]; exact HRF.out)
              clear hG hx1
              go_wp2_with fail
              refine HRF2.out.mono ?_
              rintro e wq ⟨rfl, hV⟩
              have HN := Lib.hid (show PlS w p d q m N (i + 1) wq from ⟨I, _, HP1.out.rf hV.2, hV.1, HV.out b⟩)
              clear hV d2
              go_wp2
              go_meet
              case rel => exact ⟨rfl, HN.out⟩
        have f7 : 7 < zd := by omega
        clear e7
        by_cases e8 : zd = 8
        · as_aux_lemma =>
            subst e8
            have HV := Lib.hid (show (x.forP zp).d.ops ≤ 40 * (i + 1) ∧ (x.forP zp).d.outs.length ≤ 100 * (i + 1) from ⟨by rw [P.for_d]; have h1 := HOO.out.1; have h2 := HOO.out.2.2.1; omega, by rw [P.for_d]; have h1 := HOO.out.2.1; omega⟩)
            obtain ⟨E, hE⟩ : ∃ E, E = x.forB zp := ⟨_, rfl⟩
            have HPR := Lib.hid (lforget HPX.out zp HNP.out.2 E hE.symm)
            have HE := Lib.hid hE
            clear hE f2 f4 f7
            go_wp2_with fail
            refine HPR.out.mono ?_
            rintro e wp ⟨rfl, hG⟩
            have HP1 := Lib.hid hG.pool
            have HR1 := Lib.hid (hG.rf HRX.out)
            have hx1 := hG.box _ _ _ HBX.out (by unfold poT devT; decide) (by decide) (by decide)
            have d1 : wp.cell? ⟨g, 1, none⟩ = some (.int .i64 zn) := cell_blk hx1 1
            have d2 : wp.cell? ⟨g, 2, none⟩ = some (.int .i64 zp) := cell_blk hx1 2
            
            clear hG hx1
            have HRF := Lib.hid (rforget_any HR1.out zp HNP.out.2)
            rw [← HE.out] at HRF
            go_wp2_with fail
            refine HRF.out.mono ?_
            rintro e wq ⟨rfl, hV⟩
            have HN := Lib.hid (show PlS w p d q m N (i + 1) wq from ⟨I, _, HP1.out.rf hV.2, hV.1, HV.out⟩)
            
            clear hV d1 d2
            go_wp2
            go_meet
            case rel => exact ⟨rfl, HN.out⟩
        by_cases e9 : zd = 9
        · as_aux_lemma =>
            subst e9
            have HV := Lib.hid (show (P.flushP (x.dirt 20) x).d.ops ≤ 40 * (i + 1) ∧ (P.flushP (x.dirt 20) x).d.outs.length ≤ 100 * (i + 1) from ⟨by have h0 := P.flush_ops (x.dirt 20) x; have h3 := P.dirt_len 20 x; have h1 := HOO.out.1; have h2 := HOO.out.2.2.1; omega, by have h0 := P.flush_outs (x.dirt 20) x; have h1 := HOO.out.2.1; omega⟩)
            clear f2 f4 f7 e8
            obtain ⟨E, hE⟩ : ∃ E, E = P.flushE (x.dirt 20) x := ⟨_, rfl⟩
            have HPR := Lib.hid (lflush HPX.out (by have h1 := HOO.out.1; have h2 := HOO.out.2.2.1; omega) E hE.symm)
            have HE := Lib.hid hE
            clear hE
            go_wp2_with fail
            refine HPR.out.mono ?_
            rintro e wp ⟨rfl, hG⟩
            have HP1 := Lib.hid hG.pool
            have HR1 := Lib.hid (hG.rf HRX.out)
            have hx1 := hG.box _ _ _ HBX.out (by unfold poT devT; decide) (by decide) (by decide)
            have d1 : wp.cell? ⟨g, 1, none⟩ = some (.int .i64 zn) := cell_blk hx1 1
            have d2 : wp.cell? ⟨g, 2, none⟩ = some (.int .i64 zp) := cell_blk hx1 2
            
            clear hG hx1
            have HRF := Lib.hid (rflush_any HR1.out (by have h1 := HOO.out.1; have h2 := HOO.out.2.2.1; omega))
            rw [← HE.out] at HRF
            go_wp2_with fail
            refine HRF.out.mono ?_
            rintro e wq ⟨rfl, hV⟩
            have HN := Lib.hid (show PlS w p d q m N (i + 1) wq from ⟨I, _, HP1.out.rf hV.2, hV.1, HV.out⟩)
            
            clear hV d1 d2
            go_wp2
            go_meet
            case rel => exact ⟨rfl, HN.out⟩
        by_cases e10 : zd = 10
        · as_aux_lemma =>
            subst e10
            have HV := Lib.hid (show (P.evP zn.toNat x).d.ops ≤ 40 * (i + 1) ∧ (P.evP zn.toNat x).d.outs.length ≤ 100 * (i + 1) from ⟨by have h0 := P.ev_ops zn.toNat HOO.out.2.2.2; have h3 := P.ok_le HOO.out.2.2.2; have h1 := HOO.out.1; have h2 := HOO.out.2.2.1; omega, by have h0 := P.ev_outs zn.toNat x; have h1 := HOO.out.2.1; omega⟩)
            clear f2 f4 f7 e8 e9
            obtain ⟨E, hE⟩ : ∃ E, E = P.evE zn.toNat x := ⟨_, rfl⟩
            have HPR := Lib.hid (levict HPX.out zn (by have h3 := HZ.out.2.2.1; omega) (by have h1 := HOO.out.1; have h2 := HOO.out.2.2.1; omega) E hE.symm)
            have HE := Lib.hid hE
            clear hE
            go_wp2_with fail
            refine HPR.out.mono ?_
            rintro e wp ⟨rfl, hG⟩
            have HP1 := Lib.hid hG.pool
            have HR1 := Lib.hid (hG.rf HRX.out)
            have hx1 := hG.box _ _ _ HBX.out (by unfold poT devT; decide) (by decide) (by decide)
            have d1 : wp.cell? ⟨g, 1, none⟩ = some (.int .i64 zn) := cell_blk hx1 1
            have d2 : wp.cell? ⟨g, 2, none⟩ = some (.int .i64 zp) := cell_blk hx1 2
            
            clear hG hx1
            have HRF := Lib.hid (revict_any HR1.out zn (by have h3 := HZ.out.2.2.1; omega) (by have h1 := HOO.out.1; have h2 := HOO.out.2.2.1; omega))
            rw [← HE.out] at HRF
            go_wp2_with fail
            refine HRF.out.mono ?_
            rintro e wq ⟨rfl, hV⟩
            have HN := Lib.hid (show PlS w p d q m N (i + 1) wq from ⟨I, _, HP1.out.rf hV.2, hV.1, HV.out⟩)
            
            clear hV d1 d2
            go_wp2
            go_meet
            case rel => exact ⟨rfl, HN.out⟩
        by_cases e11 : zd = 11
        · as_aux_lemma =>
            subst e11
            clear f2 f4 f7 e8 e9 e10
            have HPR := Lib.hid (loutc HPX.out ab mb cb bs HBS.out (by have h1 := HOO.out.2.1; have h2 := HOO.out.2.2.1; have h3 := HZ.out.2.2.2; omega))
            go_wp2_with fail
            refine HPR.out.mono ?_
            rintro e wp ⟨rfl, hG⟩
            have hdw : Below wp.heap.size wp wp.drew := (Below.refl _ wp).drew
            have HP1 := Lib.hid (hG.pool.below hdw).pool
            have hR1 := (hG.rf HRX.out).below hdw
            have hx1 := hG.box _ _ _ HBX.out (by unfold poT devT; decide) (by decide) (by decide)
            have d4 : wp.cell? ⟨g, 4, none⟩ = some (.slice ab mb cb) := cell_blk hx1 4
            have hbs1 : Rd wp.drew ab mb bs := (show Rd wp ab mb bs from HBA.out wp hG.pool.1)
            have HBS1 := Lib.hid hbs1
            have HLO := Lib.hid (show w.heap.size ≤ wp.drew.heap.size from HP1.out.1.size)
            obtain ⟨hDD, ⟨L, vl, hL, hx⟩, hok, hN⟩ := hR1
            obtain ⟨vs, gn, cn, vw, ao, no, co, ns, ls, Cn, hS⟩ := hDD
            have d3 : wp.cell? ⟨m, 3, none⟩ = some (.slice ao no co) := cell_blk hS.dev 3
            have HS := Lib.hid hS
            have HLX := Lib.hid (And.intro hL (And.intro hx (And.intro hok hN)))
            have hno : no + mb ≤ 1000000 := by
              have h1 := hS.out.1.1
              have h2 := HOO.out.2.1
              have h3 := HOO.out.2.2.1
              have h4 := HZ.out.2.2.2
              omega
            have HBB := Lib.hid (show x.d.ops ≤ 40 * (i + 1) ∧ x.d.outs.length + bs.length ≤ 100 * (i + 1) from ⟨by have h1 := HOO.out.1; omega, by have h1 := HOO.out.2.1; have h2 := HBS.out.1; have h3 := HZ.out.2.2.2; omega⟩)
            clear hG hx1 hbs1 hL hx hok hN hS hdw
            go_wp2
            go_region_law ((refine step_out wp.drew rfl _ _ rfl w.heap.size ao no co x.d.outs rfl HS.out.out HS.out.avs HLO.out ab mb cb bs rfl HBS1.out hno ?_; intro v6 w6 hO; obtain ⟨a6, n6, c6, hv6, g6, f6, hPl⟩ := PlS.outs HP1.out HS.out HLX.out.1 HLX.out.2.1 HLX.out.2.2.1 HLX.out.2.2.2 hO HBB.out.1 HBB.out.2; subst hv6; have HPL := Lib.hid hPl; clear hO hPl))
            all_goals
              go_wp2
              go_meet
              case rel => exact ⟨rfl, HPL.out⟩
        · as_aux_lemma =>
            have HPR := Lib.hid (lfuse HPX.out zn HNP.out.1)
            have HV := Lib.hid (show (if x.d.dead = true then x.d else { x.d with fuse := max zn (-1) } : P.Dv).ops ≤ 40 * (i + 1) ∧ (if x.d.dead = true then x.d else { x.d with fuse := max zn (-1) } : P.Dv).outs.length ≤ 100 * (i + 1) from by
              have h1 := HOO.out.1
              have h2 := HOO.out.2.1
              split
              · exact ⟨by omega, by omega⟩
              · exact ⟨by show x.d.ops ≤ _; omega, by show x.d.outs.length ≤ _; omega⟩)
            go_wp2_with fail
            refine HPR.out.mono ?_
            rintro e wp ⟨rfl, hG⟩
            have HP1 := Lib.hid hG.pool
            have HR1 := Lib.hid (hG.rf HRX.out)
            have hx1 := hG.box _ _ _ HBX.out (by unfold poT devT; decide) (by decide) (by decide)
            have d1 : wp.cell? ⟨g, 1, none⟩ = some (.int .i64 zn) := cell_blk hx1 1
            have HRF := Lib.hid (rarmx HR1.out zn HNP.out.1)
            clear hG hx1
            go_wp2_with fail
            refine HRF.out.mono ?_
            rintro e wq ⟨rfl, hV⟩
            have HN := Lib.hid (show PlS w p d q m N (i + 1) wq from ⟨I, _, HP1.out.rf hV.2, hV.1, HV.out⟩)
            clear hV d1
            go_wp2
            go_meet
            case rel => exact ⟨rfl, HN.out⟩
      case rest =>
        obtain ⟨rfl, I, x, hP, hR, ho1, ho2⟩ := hcut
        have hdw : Below wc.heap.size wc wc.drew := (Below.refl _ wc).drew
        have HP0 := Lib.hid (hP.below hdw).pool
        have HR0 := Lib.hid (hR.below hdw)
        have HFIN := Lib.hid (show ∀ W, Below wc.drew.heap.size wc.drew W → PlS w p d q m N (i + 1) W from fun W hb => PlS.below ⟨I, x, (hP.below hdw).pool, hR.below hdw, ho1, ho2⟩ hb)
        have HLE := Lib.hid (show (x.res 20).length ≤ 5000 ∧ (x.dirt 20).length ≤ 5000 from ⟨Nat.le_trans (List.length_filter_le _ _) (by rw [List.length_range]; omega), Nat.le_trans (P.dirt_len 20 x) (by omega)⟩)
        obtain ⟨R, hRR⟩ : ∃ R, R = x.res 20 := ⟨_, rfl⟩
        obtain ⟨D, hDD⟩ : ∃ D, D = x.dirt 20 := ⟨_, rfl⟩
        obtain ⟨PN, hPN⟩ : ∃ PN, PN = x.pinned := ⟨_, rfl⟩
        obtain ⟨OP, hOP⟩ : ∃ OP, OP = x.d.ops := ⟨_, rfl⟩
        obtain ⟨IM, hIM⟩ : ∃ IM, IM = x.d.img := ⟨_, rfl⟩
        have HX := Lib.hid (show ∀ W, Below wc.drew.heap.size wc.drew W → PxR w p d q m N R D PN OP IM W from fun W hb => by
          have h1 := (HP0.out.below hb).pool
          have h2 := HR0.out.below hb
          rw [hRR, hDD, hPN, hOP, hIM]
          exact PxR.of h1 h2)
        rw [← hRR, ← hDD] at HLE
        have HX0 := Lib.hid (HX.out _ (Below.refl _ _))
        have HRS := Lib.hid HX0.out.a1
        clear hP hR ho1 ho2 hdw hRR hDD hPN hOP hIM HP0 HR0
        go_upto_region 45 with (fail)
        refine wp_region_any (by kernel_rfl) ?_
        change wpAny _ _ _ _ _ _ _ wc.drew
        refine wpAny_take (i := 0) (oi := ⟨some 196, _, _, _, _, _⟩) (v := .bool true) rfl (by kernel_rfl) (by kernel_rfl) (by kernel_rfl) (fun _ _ _ h => h) (Or.inl ⟨by kernel_rfl, fun _ => by kernel_rfl⟩) ?_
        refine wpAny_take (i := 1) (oi := ⟨some 197, _, _, _, _, _⟩) (v := .bool false) rfl (by kernel_rfl) (by kernel_rfl) (by kernel_rfl) (fun _ _ _ h => h) (Or.inl ⟨by kernel_rfl, fun _ => by kernel_rfl⟩) ?_
        refine wpAny_take (i := 2) (oi := ⟨some 198, _, _, _, _, _⟩) (v := .bool false) rfl (by kernel_rfl) (by kernel_rfl) (by kernel_rfl) (fun _ _ _ h => h) (Or.inl ⟨by kernel_rfl, fun _ => by kernel_rfl⟩) ?_
        refine wpAny_take (i := 3) (oi := ⟨some 199, _, _, _, _, _⟩) (v := .pointer (some ⟨p, 0, none⟩)) rfl (by kernel_rfl) (by kernel_rfl) (by kernel_rfl) (fun _ _ _ h => h) (Or.inl ⟨by kernel_rfl, fun _ => by kernel_rfl⟩) ?_
        refine wpAny_take (i := 5) (oi := ⟨some 201, _, _, _, _, _⟩) (v := .pointer (some ⟨q, 0, none⟩)) rfl (by kernel_rfl) (by kernel_rfl) (by kernel_rfl) (fun _ _ _ h => h) (Or.inl ⟨by kernel_rfl, fun _ => by kernel_rfl⟩) ?_
        refine any_call 4 (o := ⟨some 200, _, _, _, _, _⟩) rfl (by kernel_rfl) (by kernel_rfl) 28 #[.pointer (some ⟨p, 0, none⟩)] (x_call1 rfl 28 rfl (.pointer (some ⟨p, 0, none⟩)) (by kernel_rfl) (enter_of Tryz.func28 (by kernel_rfl) (by kernel_rfl) _ _)) _ HRS.out ?_
        rintro _ wA ⟨aA, cA, rfl, hrA, hbA⟩
        have HBA := Lib.hid hbA
        have HRA := Lib.hid hrA
        have HQ := Lib.hid (HX.out _ hbA).a2
        clear hrA hbA
        refine any_call 6 (o := ⟨some 202, _, _, _, _, _⟩) rfl (by kernel_rfl) (by kernel_rfl) 29 #[.pointer (some ⟨q, 0, none⟩)] (x_call1 rfl 29 rfl (.pointer (some ⟨q, 0, none⟩)) (by kernel_rfl) (enter_of Tryz.func29 (by kernel_rfl) (by kernel_rfl) _ _)) _ HQ.out ?_
        rintro _ wB ⟨aB, cB, rfl, hrB, hbB⟩
        have HBB := Lib.hid (below_then HBA.out hbB HBA.out.size)
        have HIN := Lib.hid ((ints_same aA aB R.length cA cB _ wB (HRA.out.below hbB) hrB HLE.out.1).mono (fun e w' h => (show ∃ v, e = .returned v ∧ (v = .bool true ∧ Below wB.heap.size wB w') from ⟨_, h.1, rfl, h.2⟩)))
        clear hrB hbB
        refine any_call 7 (o := ⟨some 203, _, _, _, _, _⟩) rfl (by kernel_rfl) (by kernel_rfl) 27 #[.slice aA R.length cA, .slice aB R.length cB] (x_call2 rfl 27 rfl (.slice aA R.length cA) (.slice aB R.length cB) (by kernel_rfl) (by kernel_rfl) (enter_of Tryz.func27 (by kernel_rfl) (by kernel_rfl) _ _)) _ HIN.out ?_
        rintro _ wC ⟨rfl, hbC⟩
        have HBC := Lib.hid (below_then HBB.out hbC HBB.out.size)
        have HDR := Lib.hid (HX.out _ HBC.out).a3
        clear hbC
        refine wpAny_take (i := 8) (oi := ⟨some 204, _, _, _, _, _⟩) (v := .bool false) rfl (by kernel_rfl) (by kernel_rfl) (by kernel_rfl) (fun _ _ _ h => h) (Or.inl ⟨by kernel_rfl, fun _ => by kernel_rfl⟩) ?_
        refine wpAny_take (i := 9) (oi := ⟨some 205, _, _, _, _, _⟩) (v := .bool false) rfl (by kernel_rfl) (by kernel_rfl) (by kernel_rfl) (fun _ _ _ h => h) (Or.inl ⟨by kernel_rfl, fun _ => by kernel_rfl⟩) ?_
        refine wpAny_take (i := 10) (oi := ⟨some 206, _, _, _, _, _⟩) (v := .bool false) rfl (by kernel_rfl) (by kernel_rfl) (by kernel_rfl) (fun _ _ _ h => h) (Or.inl ⟨by kernel_rfl, fun _ => by kernel_rfl⟩) ?_
        refine wpAny_take (i := 11) (oi := ⟨some 207, _, _, _, _, _⟩) (v := .pointer (some ⟨p, 0, none⟩)) rfl (by kernel_rfl) (by kernel_rfl) (by kernel_rfl) (fun _ _ _ h => h) (Or.inl ⟨by kernel_rfl, fun _ => by kernel_rfl⟩) ?_
        refine wpAny_take (i := 13) (oi := ⟨some 209, _, _, _, _, _⟩) (v := .pointer (some ⟨q, 0, none⟩)) rfl (by kernel_rfl) (by kernel_rfl) (by kernel_rfl) (fun _ _ _ h => h) (Or.inl ⟨by kernel_rfl, fun _ => by kernel_rfl⟩) ?_
        refine any_call 12 (o := ⟨some 208, _, _, _, _, _⟩) rfl (by kernel_rfl) (by kernel_rfl) 30 #[.pointer (some ⟨p, 0, none⟩)] (x_call1 rfl 30 rfl (.pointer (some ⟨p, 0, none⟩)) (by kernel_rfl) (enter_of Tryz.func30 (by kernel_rfl) (by kernel_rfl) _ _)) _ HDR.out ?_
        rintro _ wD ⟨aD, cD, rfl, hrD, hbD⟩
        have HBD := Lib.hid (below_then HBC.out hbD HBC.out.size)
        have HRD := Lib.hid hrD
        have HDQ := Lib.hid (HX.out _ HBD.out).a4
        clear hrD hbD
        refine any_call 14 (o := ⟨some 210, _, _, _, _, _⟩) rfl (by kernel_rfl) (by kernel_rfl) 31 #[.pointer (some ⟨q, 0, none⟩)] (x_call1 rfl 31 rfl (.pointer (some ⟨q, 0, none⟩)) (by kernel_rfl) (enter_of Tryz.func31 (by kernel_rfl) (by kernel_rfl) _ _)) _ HDQ.out ?_
        rintro _ wE ⟨aE, cE, rfl, hrE, hbE⟩
        have HBE := Lib.hid (below_then HBD.out hbE HBD.out.size)
        have HIN2 := Lib.hid ((ints_same aD aE D.length cD cE _ wE (HRD.out.below hbE) hrE HLE.out.2).mono (fun e w' h => (show ∃ v, e = .returned v ∧ (v = .bool true ∧ Below wE.heap.size wE w') from ⟨_, h.1, rfl, h.2⟩)))
        clear hrE hbE
        refine any_call 15 (o := ⟨some 211, _, _, _, _, _⟩) rfl (by kernel_rfl) (by kernel_rfl) 27 #[.slice aD D.length cD, .slice aE D.length cE] (x_call2 rfl 27 rfl (.slice aD D.length cD) (.slice aE D.length cE) (by kernel_rfl) (by kernel_rfl) (enter_of Tryz.func27 (by kernel_rfl) (by kernel_rfl) _ _)) _ HIN2.out ?_
        rintro _ wF ⟨rfl, hbF⟩
        have HBF := Lib.hid (below_then HBE.out hbF HBE.out.size)
        have HPN := Lib.hid (HX.out _ HBF.out).a5
        clear hbF
        refine wpAny_take (i := 16) (oi := ⟨some 212, _, _, _, _, _⟩) (v := .bool false) rfl (by kernel_rfl) (by kernel_rfl) (by kernel_rfl) (fun _ _ _ h => h) (Or.inl ⟨by kernel_rfl, fun _ => by kernel_rfl⟩) ?_
        refine wpAny_take (i := 17) (oi := ⟨some 213, _, _, _, _, _⟩) (v := .bool false) rfl (by kernel_rfl) (by kernel_rfl) (by kernel_rfl) (fun _ _ _ h => h) (Or.inl ⟨by kernel_rfl, fun _ => by kernel_rfl⟩) ?_
        refine wpAny_take (i := 18) (oi := ⟨some 214, _, _, _, _, _⟩) (v := .bool false) rfl (by kernel_rfl) (by kernel_rfl) (by kernel_rfl) (fun _ _ _ h => h) (Or.inl ⟨by kernel_rfl, fun _ => by kernel_rfl⟩) ?_
        refine wpAny_take (i := 19) (oi := ⟨some 215, _, _, _, _, _⟩) (v := .pointer (some ⟨p, 0, none⟩)) rfl (by kernel_rfl) (by kernel_rfl) (by kernel_rfl) (fun _ _ _ h => h) (Or.inl ⟨by kernel_rfl, fun _ => by kernel_rfl⟩) ?_
        refine wpAny_take (i := 21) (oi := ⟨some 217, _, _, _, _, _⟩) (v := .pointer (some ⟨q, 0, none⟩)) rfl (by kernel_rfl) (by kernel_rfl) (by kernel_rfl) (fun _ _ _ h => h) (Or.inl ⟨by kernel_rfl, fun _ => by kernel_rfl⟩) ?_
        refine any_call 20 (o := ⟨some 216, _, _, _, _, _⟩) rfl (by kernel_rfl) (by kernel_rfl) 32 #[.pointer (some ⟨p, 0, none⟩)] (x_call1 rfl 32 rfl (.pointer (some ⟨p, 0, none⟩)) (by kernel_rfl) (enter_of Tryz.func32 (by kernel_rfl) (by kernel_rfl) _ _)) _ HPN.out ?_
        rintro _ wG ⟨rfl, hbG⟩
        have HBG := Lib.hid (below_then HBF.out hbG HBF.out.size)
        have HPQ := Lib.hid (HX.out _ HBG.out).a6
        clear hbG
        refine any_call 22 (o := ⟨some 218, _, _, _, _, _⟩) rfl (by kernel_rfl) (by kernel_rfl) 33 #[.pointer (some ⟨q, 0, none⟩)] (x_call1 rfl 33 rfl (.pointer (some ⟨q, 0, none⟩)) (by kernel_rfl) (enter_of Tryz.func33 (by kernel_rfl) (by kernel_rfl) _ _)) _ HPQ.out ?_
        rintro _ wH ⟨rfl, hbH⟩
        have HBH := Lib.hid (below_then HBG.out hbH HBG.out.size)
        have HOS := Lib.hid (HX.out _ HBH.out).a7
        have c5 := (HX.out _ HBH.out).a8
        clear hbH
        refine wpAny_take (i := 23) (oi := ⟨some 219, _, _, _, _, _⟩) (v := .bool false) rfl (by kernel_rfl) (by kernel_rfl) (by kernel_rfl) (fun _ _ _ h => h) (Or.inl ⟨by kernel_rfl, fun _ => x_neq_same rfl .i64 (PN : Int) (by kernel_rfl) (by kernel_rfl)⟩) ?_
        refine wpAny_take (i := 24) (oi := ⟨some 220, _, _, _, _, _⟩) (v := .bool false) rfl (by kernel_rfl) (by kernel_rfl) (by kernel_rfl) (fun _ _ _ h => h) (Or.inl ⟨by kernel_rfl, fun _ => by kernel_rfl⟩) ?_
        refine wpAny_take (i := 25) (oi := ⟨some 221, _, _, _, _, _⟩) (v := .bool false) rfl (by kernel_rfl) (by kernel_rfl) (by kernel_rfl) (fun _ _ _ h => h) (Or.inl ⟨by kernel_rfl, fun _ => by kernel_rfl⟩) ?_
        refine wpAny_take (i := 26) (oi := ⟨some 222, _, _, _, _, _⟩) (v := .pointer (some ⟨d, 0, none⟩)) rfl (by kernel_rfl) (by kernel_rfl) (by kernel_rfl) (fun _ _ _ h => h) (Or.inl ⟨by kernel_rfl, fun _ => by kernel_rfl⟩) ?_
        refine wpAny_take (i := 28) (oi := ⟨some 224, _, _, _, _, _⟩) (v := .pointer (some ⟨m, 0, none⟩)) rfl (by kernel_rfl) (by kernel_rfl) (by kernel_rfl) (fun _ _ _ h => h) (Or.inl ⟨by kernel_rfl, fun _ => by kernel_rfl⟩) ?_
        refine wpAny_take (i := 29) (oi := ⟨some 225, _, _, _, _, _⟩) (v := .pointer (some ⟨m, 0, none⟩)) rfl (by kernel_rfl) (by kernel_rfl) (by kernel_rfl) (fun _ _ _ h => h) (Or.inl ⟨by kernel_rfl, fun _ => by kernel_rfl⟩) ?_
        refine wpAny_take (i := 30) (oi := ⟨some 226, _, _, _, _, _⟩) (v := .pointer (some ⟨m, 5, none⟩)) rfl (by kernel_rfl) (by kernel_rfl) (by kernel_rfl) (fun _ _ _ h => h) (Or.inl ⟨by kernel_rfl, fun _ => by kernel_rfl⟩) ?_
        refine any_call_load 27 31 (o := ⟨some 223, _, _, _, _, _⟩) (o' := ⟨some 227, _, _, _, _, _⟩) rfl rfl (by kernel_rfl) (by kernel_rfl) (by kernel_rfl) (by decide) (by kernel_rfl) (by kernel_rfl) (.int .i64 (OP : Int)) (fun v => by kernel_rfl) (by kernel_rfl) 34 #[.pointer (some ⟨d, 0, none⟩)] (x_call1 rfl 34 rfl (.pointer (some ⟨d, 0, none⟩)) (by kernel_rfl) (enter_of Tryz.func34 (by kernel_rfl) (by kernel_rfl) _ _)) (x_call1 rfl 34 rfl (.pointer (some ⟨d, 0, none⟩)) (by kernel_rfl) (enter_of Tryz.func34 (by kernel_rfl) (by kernel_rfl) _ _)) (x_load1 rfl ⟨m, 5, none⟩ (by kernel_rfl) (fun w => Tryz.isAgg3 w) _ c5) _ HOS.out (fun v w' hv => x_load1 rfl ⟨m, 5, none⟩ (by kernel_rfl) (fun w => Tryz.isAgg3 w) _ (HX.out _ (below_then HBH.out hv.2 HBH.out.size)).a8) (fun v => act_comm _ _ _ _ _ (by decide)) ?_
        rintro _ wI ⟨rfl, hbI⟩
        have HBI := Lib.hid (below_then HBH.out hbI HBH.out.size)
        have HIM := Lib.hid (HX.out _ HBI.out).a9
        clear hbI c5
        refine wpAny_take (i := 32) (oi := ⟨some 228, _, _, _, _, _⟩) (v := .bool false) rfl (by kernel_rfl) (by kernel_rfl) (by kernel_rfl) (fun _ _ _ h => h) (Or.inl ⟨by kernel_rfl, fun _ => x_neq_same rfl .i64 (OP : Int) (by kernel_rfl) (by kernel_rfl)⟩) ?_
        refine wpAny_take (i := 33) (oi := ⟨some 229, _, _, _, _, _⟩) (v := .bool false) rfl (by kernel_rfl) (by kernel_rfl) (by kernel_rfl) (fun _ _ _ h => h) (Or.inl ⟨by kernel_rfl, fun _ => by kernel_rfl⟩) ?_
        refine wpAny_take (i := 34) (oi := ⟨some 230, _, _, _, _, _⟩) (v := .bool false) rfl (by kernel_rfl) (by kernel_rfl) (by kernel_rfl) (fun _ _ _ h => h) (Or.inl ⟨by kernel_rfl, fun _ => by kernel_rfl⟩) ?_
        refine wpAny_take (i := 35) (oi := ⟨some 231, _, _, _, _, _⟩) (v := .pointer (some ⟨d, 0, none⟩)) rfl (by kernel_rfl) (by kernel_rfl) (by kernel_rfl) (fun _ _ _ h => h) (Or.inl ⟨by kernel_rfl, fun _ => by kernel_rfl⟩) ?_
        refine wpAny_take (i := 37) (oi := ⟨some 233, _, _, _, _, _⟩) (v := .pointer (some ⟨m, 0, none⟩)) rfl (by kernel_rfl) (by kernel_rfl) (by kernel_rfl) (fun _ _ _ h => h) (Or.inl ⟨by kernel_rfl, fun _ => by kernel_rfl⟩) ?_
        refine any_call 36 (o := ⟨some 232, _, _, _, _, _⟩) rfl (by kernel_rfl) (by kernel_rfl) 35 #[.pointer (some ⟨d, 0, none⟩)] (x_call1 rfl 35 rfl (.pointer (some ⟨d, 0, none⟩)) (by kernel_rfl) (enter_of Tryz.func35 (by kernel_rfl) (by kernel_rfl) _ _)) _ HIM.out ?_
        rintro _ wJ ⟨aJ, nJ, cJ, rfl, hrJ, hbJ⟩
        have HBJ := Lib.hid (below_then HBI.out hbJ HBI.out.size)
        have HRJ := Lib.hid hrJ
        have HIQ := Lib.hid (HX.out _ HBJ.out).a10
        clear hrJ hbJ
        refine any_call 38 (o := ⟨some 234, _, _, _, _, _⟩) rfl (by kernel_rfl) (by kernel_rfl) 36 #[.pointer (some ⟨m, 0, none⟩)] (x_call1 rfl 36 rfl (.pointer (some ⟨m, 0, none⟩)) (by kernel_rfl) (enter_of Tryz.func36 (by kernel_rfl) (by kernel_rfl) _ _)) _ HIQ.out ?_
        rintro _ wK ⟨aK, nK, cK, rfl, hrK, hbK⟩
        have HBK := Lib.hid (below_then HBJ.out hbK HBJ.out.size)
        have HSM := Lib.hid ((same_yes aJ aK nJ nK cJ cK _ wK (HRJ.out.below hbK) hrK).mono (fun e w' h => (show ∃ v, e = .returned v ∧ (v = .bool true ∧ Below wK.heap.size wK w') from ⟨_, h.1, rfl, h.2⟩)))
        clear hrK hbK
        refine any_call 39 (o := ⟨some 235, _, _, _, _, _⟩) rfl (by kernel_rfl) (by kernel_rfl) 12 #[.slice aJ nJ cJ, .slice aK nK cK] (x_call2 rfl 12 rfl (.slice aJ nJ cJ) (.slice aK nK cK) (by kernel_rfl) (by kernel_rfl) (enter_of Tryz.func12 (by kernel_rfl) (by kernel_rfl) _ _)) _ HSM.out ?_
        rintro _ wL ⟨rfl, hbL⟩
        have HBL := Lib.hid (below_then HBK.out hbL HBK.out.size)
        clear hbL
        refine wpAny_take (i := 40) (oi := ⟨some 236, _, _, _, _, _⟩) (v := .bool false) rfl (by kernel_rfl) (by kernel_rfl) (by kernel_rfl) (fun _ _ _ h => h) (Or.inl ⟨by kernel_rfl, fun _ => by kernel_rfl⟩) ?_
        refine wpAny_take (i := 41) (oi := ⟨some 237, _, _, _, _, _⟩) (v := .bool false) rfl (by kernel_rfl) (by kernel_rfl) (by kernel_rfl) (fun _ _ _ h => h) (Or.inl ⟨by kernel_rfl, fun _ => by kernel_rfl⟩) ?_
        have HN := Lib.hid (HFIN.out _ HBL.out)
        refine wpAny_done (by kernel_rfl) ?_ _
        simp only [Act.put, List.setIfInBounds_toArray, List.set_cons_zero, List.set_cons_succ]
        go_wp2
        exact ⟨⟨i + 1, by have h1 := HIN0.out; omega, by go_num, HN.out⟩, by have h1 := HIN0.out; simp [intOf]; omega⟩
    · have HF := Lib.hid (hP.1)
      obtain rfl : i = n := by omega
      clear hP hR ho1 ho2
      go_wp2
      go_ret
      exact ⟨rfl, HF.out⟩
end Go.Proofs.YtocepcibcapfbaaGreat
