/- The reference: Open. Printed by gen_rfk.py. -/
import Derived.Test.YtnjpaanjgbfbaaaGreatJ41
import Derived.Test.YtnjpaanjgbfbaaaGreatJ42
namespace Go.Proofs.YtnjpaanjgbfbaaaGreat
set_option linter.unusedVariables false
set_option linter.unusedSimpArgs false
open Go.RowKit

theorem blk8r {w1 : World} {B : Nat} {a0 a1 a2 a3 a4 a5 a6 a7 : Value} {t : TypeId} {fr : Nat × Nat} (h : w1.heap[B]? = some (.cells #[a0, a1, a2, a3, a4, a5, a6, a7] t fr)) (u0 u1 u2 u3 u4 u5 u6 u7 : Value) :
    ((((((((w1.setCell ⟨B, 0, none⟩ u0).setCell ⟨B, 1, none⟩ u1).setCell ⟨B, 2, none⟩ u2).setCell ⟨B, 3, none⟩ u3).setCell ⟨B, 4, none⟩ u4).setCell ⟨B, 5, none⟩ u5).setCell ⟨B, 6, none⟩ u6).setCell ⟨B, 7, none⟩ u7).heap[B]? = some (.cells #[u0, u1, u2, u3, u4, u5, u6, u7] t fr) := by
  have h0 := blk_setCell h 0 u0
  simp only [List.setIfInBounds_toArray, List.set_cons_zero, List.set_cons_succ] at h0
  have h1 := blk_setCell h0 1 u1
  simp only [List.setIfInBounds_toArray, List.set_cons_zero, List.set_cons_succ] at h1
  have h2 := blk_setCell h1 2 u2
  simp only [List.setIfInBounds_toArray, List.set_cons_zero, List.set_cons_succ] at h2
  have h3 := blk_setCell h2 3 u3
  simp only [List.setIfInBounds_toArray, List.set_cons_zero, List.set_cons_succ] at h3
  have h4 := blk_setCell h3 4 u4
  simp only [List.setIfInBounds_toArray, List.set_cons_zero, List.set_cons_succ] at h4
  have h5 := blk_setCell h4 5 u5
  simp only [List.setIfInBounds_toArray, List.set_cons_zero, List.set_cons_succ] at h5
  have h6 := blk_setCell h5 6 u6
  simp only [List.setIfInBounds_toArray, List.set_cons_zero, List.set_cons_succ] at h6
  have h7 := blk_setCell h6 7 u7
  simp only [List.setIfInBounds_toArray, List.set_cons_zero, List.set_cons_succ] at h7
  exact h7
theorem chg8 (w1 : World) (B : Nat) (u0 u1 u2 u3 u4 u5 u6 u7 : Value) : Chg (fun j => j = B) w1 ((((((((w1.setCell ⟨B, 0, none⟩ u0).setCell ⟨B, 1, none⟩ u1).setCell ⟨B, 2, none⟩ u2).setCell ⟨B, 3, none⟩ u3).setCell ⟨B, 4, none⟩ u4).setCell ⟨B, 5, none⟩ u5).setCell ⟨B, 6, none⟩ u6).setCell ⟨B, 7, none⟩ u7) :=
  ((((((((setCell_chg w1 B 0 u0).trans (setCell_chg _ B 1 u1)).trans (setCell_chg _ B 2 u2)).trans (setCell_chg _ B 3 u3)).trans (setCell_chg _ B 4 u4)).trans (setCell_chg _ B 5 u5)).trans (setCell_chg _ B 6 u6)).trans (setCell_chg _ B 7 u7))
/-- How the reference's Open ends. -/
def ROend (np : Nat) (img : List UInt8) (w : World) (e : Ending) (w' : World) : Prop :=
  Below w.heap.size w w' ∧ ((opens np img = none ∧ e = .returned (.tuple #[repRZ, .int .i64 8])) ∨
    (∃ s pl sl st vP vT vS vG h, opens np img = some (s, pl, sl, st) ∧ e = .returned (.tuple #[.agg (repR s pl vP vT vS vG h), .int .i64 0]) ∧ RepIs w' w.heap.size np st sl vP vT vS vG))
set_option maxRecDepth 100000 in
set_option maxHeartbeats 3200000 in
theorem raopen_any (a : Option Addr) (n c np : Nat) (img : List UInt8) (w : World) (hr : Rd w a n img) (hc : n ≤ c) (hn : n = 256 * np) (h8 : 8 ≤ np) (h4 : np ≤ 4096) :
    Calls Tryz.prog 11 #[.slice a n c] w (ROend np img w) := by
  have hl : img.length = 256 * np := by rw [hr.1]; exact hn
  obtain ⟨p, rfl, -⟩ := hr.at 0 (by omega)
  have hr0 : Rd w (some p) 256 (P.pg img 0) := by
    have h := hr.take 256 (by omega)
    have e : P.pg img 0 = img.take 256 := by unfold P.pg; simp
    rw [e]; exact h
  have hr1 : Rd w (some (p.add 256)) 256 (P.pg img 1) := by
    have h := hr.cut 256 256 (by omega)
    have e : P.slice img 256 256 = P.pg img 1 := by unfold P.slice P.pg; rfl
    rw [← e]; exact h
  obtain ⟨w0, hw0⟩ : ∃ w0, w0 = w.alloc (.cells #[.int .i64 0, .int .i64 0, .int .i64 0, .int .i64 0, .int .i64 0, .int .i64 0, .int .i64 0, .int .i64 0, .int .i64 0, .slice none 0 0, .slice none 0 0, .slice none 0 0, .slice none 0 0, .int .i64 0] 39) := ⟨_, rfl⟩
  have hb0 : Below w.heap.size w w0 := by rw [hw0]; exact (Below.refl _ w).alloc (Nat.le_refl _) _
  have k0 : w0.heap[w.heap.size]? = some (.cells #[.int .i64 0, .int .i64 0, .int .i64 0, .int .i64 0, .int .i64 0, .int .i64 0, .int .i64 0, .int .i64 0, .int .i64 0, .slice none 0 0, .slice none 0 0, .slice none 0 0, .slice none 0 0, .int .i64 0] 39 (0, 0)) := by rw [hw0]; exact alloc_new _ _ _ rfl
  have HCH := Lib.hid (fun (W : World) (hb : Below w.heap.size w W) => rchoose_any (some p) 256 c (P.pg img 0) (some (p.add 256)) 256 (c - 256) (P.pg img 1) W (hr0.below hb) (by omega) (hr1.below hb) (by omega))
  have HWK := Lib.hid (fun (W : World) (s : P.Sup) (hb : Below w.heap.size w W) => rwalk_any (some p) n c np img s W (hr.below hb) hc hn h8 h4)
  have hE := P.cE_cases (P.pg img 0) (P.pg img 1)
  have hck := fun hh => P.cE_chk (l := P.pg img 0) (k := P.pg img 1) hh
  have hop : opens np img = if P.cE (P.pg img 0) (P.pg img 1) = 0 then (rwalk np img (P.cS (P.pg img 0) (P.pg img 1))).map fun x => (P.cS (P.pg img 0) (P.pg img 1), P.cI (P.pg img 0) (P.pg img 1), x.1, x.2) else none := by
    rw [← ropens_eq]
    rfl
  obtain ⟨s, hs⟩ : ∃ s, s = P.cS (P.pg img 0) (P.pg img 1) := ⟨_, rfl⟩
  obtain ⟨pl, hpl⟩ : ∃ s, s = P.cI (P.pg img 0) (P.pg img 1) := ⟨_, rfl⟩
  obtain ⟨E, hEE⟩ : ∃ s, s = P.cE (P.pg img 0) (P.pg img 1) := ⟨_, rfl⟩
  rw [← hs, ← hpl, ← hEE] at hop HCH
  rw [← hs] at hck
  rw [← hEE] at hE hck
  unfold supV at HCH HWK
  have HOP := Lib.hid hop
  have HE := Lib.hid hE
  have HCK := Lib.hid hck
  have HB0 := Lib.hid hb0
  have K0 := Lib.hid k0
  have b1 : (512 : Int) ≤ (c : Int) := by omega
  have b2 : ¬ c = 256 := by omega
  have b3 : (512 : Int) ≤ (n : Int) := by omega
  have b4 : 512 ≤ c := by omega
  have hdr : ∀ W : World, Below w.heap.size w W → Below w.heap.size w W.drew := fun W h => ⟨h.os, h.tape, h.output, h.size, h.block⟩
  have HB1 := Lib.hid (hdr w0 hb0)
  have HB2 := Lib.hid (fun o : Obj => (hdr w0 hb0).alloc hb0.size o)
  have HCHa := Lib.hid (HCH.out w0.drew HB1.out)
  have HCHb := Lib.hid (fun o : Obj => HCH.out (w0.drew.alloc o) (HB2.out o))
  clear hr hr0 hr1 hb0 k0 hop hE hck hs hpl hEE hl hn hdr
  go_enter Tryz.func11, Tryz.ntmps11
  go_upto_region 1 with (fail)
  rw [← hw0]
  clear hw0
  go_cut [4, 5, 6] from 7 (fun s4 s5 s6 wx => ∃ g : Nat, s4 = .pointer (some ⟨g, 0, none⟩) ∧ s5 = .int .i64 pl ∧ s6 = .int .i64 E ∧ Below w0.heap.size w0 wx ∧ wx.heap[g]? = some (.cells #[.int .i64 s.g, .int .i64 s.p, .int .i64 s.r, .int .i64 s.h, .int .i64 s.b, .int .i64 s.l, .int .i64 s.s, .int .i64 s.f] 25 (0, 0)))
  case first =>
    go_region_with ((go_at_call 28; (first | (refine HCHa.out.mono ?_) | (refine (HCHb.out _).mono ?_)); rintro e w2 ⟨rfl, hb2⟩; (first | (have kb : w2.heap[w0.heap.size]? = _ := made_below (w := w0.drew) hb2; have gb := cell_blk kb; have fb := free_blk kb) | skip)))
    all_goals
      go_wp2_with fail
      go_meet
      case rel =>
        first
          | exact ⟨_, rfl, rfl, rfl, ((⟨rfl, rfl, rfl, Nat.le_refl _, fun _ _ => rfl⟩ : Below w0.heap.size w0 w0.drew).trans hb2).alloc (by have := hb2.size; simpa using this) _, alloc_new _ _ _ rfl⟩
          | (have hb9 : Below w0.heap.size w0 w2 := ((⟨rfl, rfl, rfl, Nat.le_refl _, fun _ _ => rfl⟩ : Below w0.heap.size w0 w0.drew).alloc (Nat.le_refl _) _).trans (hb2.mono (by simp))
             exact ⟨_, rfl, rfl, rfl, below_chg hb9 (chg8 w2 w0.heap.size (.int .i64 s.g) (.int .i64 s.p) (.int .i64 s.r) (.int .i64 s.h) (.int .i64 s.b) (.int .i64 s.l) (.int .i64 s.s) (.int .i64 s.f)) hb9.size (fun i e => by omega), blk8r kb (.int .i64 s.g) (.int .i64 s.p) (.int .i64 s.r) (.int .i64 s.h) (.int .i64 s.b) (.int .i64 s.l) (.int .i64 s.s) (.int .i64 s.f)⟩)
  case rest =>
    obtain ⟨g, rfl, rfl, rfl, hb2, kg⟩ := hcut
    have HBc := Lib.hid (HB0.out.trans (hb2.mono HB0.out.size))
    have kR := (hb2.block _ (lt_of_block K0.out)).trans K0.out
    have KR := Lib.hid kR
    have gR := cell_blk kR
    have fR := free_blk kR
    have gg := cell_blk kg
    have hE := HE.out
    clear hb2 kR kg
    rcases hE with hE | hE
    rotate_left
    · subst hE
      have hcf := chg14 (Chg.refl (fun j => j = w.heap.size) wc) (.inr rfl) (.int .i64 0) (.int .i64 0) (.int .i64 0) (.int .i64 0) (.int .i64 0) (.int .i64 0) (.int .i64 0) (.int .i64 0) (.int .i64 0) (.slice none 0 0) (.slice none 0 0) (.slice none 0 0) (.slice none 0 0) (.int .i64 0)
      have cl := cell_blk (blk14 KR.out (.int .i64 0) (.int .i64 0) (.int .i64 0) (.int .i64 0) (.int .i64 0) (.int .i64 0) (.int .i64 0) (.int .i64 0) (.int .i64 0) (.slice none 0 0) (.slice none 0 0) (.slice none 0 0) (.slice none 0 0) (.int .i64 0))
      have HFIN := Lib.hid (show ROend np img w (.returned (.tuple #[repRZ, .int .i64 8])) _ from ⟨below_chg HBc.out hcf HBc.out.size (fun i e => by omega), .inl ⟨by rw [HOP.out]; rfl, rfl⟩⟩)
      clear hcf
      go_wp2
      exact bodyPost_ret (v := .tuple #[repRZ, .int .i64 8]) (by simp [results, Tryz.results11, go_sem, cl, repRZ, repR, P.Sup.zero]) rfl HFIN.out
    · subst hE
      have hck := HCK.out rfl
      rw [if_pos rfl] at HOP
      have HW := Lib.hid (HWK.out wc s HBc.out)
      have lR := lt_of_block KR.out
      go_wp2_with fail
      refine HW.out.mono ?_
      rintro e w3 ⟨hb3, h⟩
      have hB3 := HBc.out.trans (hb3.mono HBc.out.size)
      have kR3 := (hb3.block _ lR).trans KR.out
      have gR3 := cell_blk kR3
      have fR3 := free_blk kR3
      have l3 := lt_of_block kR3
      have hne : ¬ w.heap.size = w3.heap.size := by omega
      have hne2 : ¬ w3.heap.size = w.heap.size := by omega
      rcases h with ⟨h, -⟩ | ⟨-, hno, rfl⟩ | ⟨-, sl, st, vP, vT, vS, vG, hsp, rfl, r1, r2, r3, r4⟩
      · exact absurd hck h
      · have HNO := Lib.hid (show opens np img = none by rw [HOP.out, hno]; rfl)
        have hcf := fun o : Obj => (chg14 (Chg.refl (fun j => j = w.heap.size) w3) (.inr rfl) (.int .i64 0) (.int .i64 0) (.int .i64 0) (.int .i64 0) (.int .i64 0) (.int .i64 0) (.int .i64 0) (.int .i64 0) (.int .i64 0) (.slice none 0 0) (.slice none 0 0) (.slice none 0 0) (.slice none 0 0) (.int .i64 0)).alloc o
        have cl := fun o : Obj => cell_blk (alloc_old (blk14 kR3 (.int .i64 0) (.int .i64 0) (.int .i64 0) (.int .i64 0) (.int .i64 0) (.int .i64 0) (.int .i64 0) (.int .i64 0) (.int .i64 0) (.slice none 0 0) (.slice none 0 0) (.slice none 0 0) (.slice none 0 0) (.int .i64 0)) o)
        have HFIN := Lib.hid (fun o : Obj => (show ROend np img w (.returned (.tuple #[repRZ, .int .i64 8])) _ from ⟨below_chg hB3 (hcf o) hB3.size (fun i e => by omega), .inl ⟨HNO.out, rfl⟩⟩))
        have HCL := Lib.hid cl
        unfold repRZ repR P.Sup.zero
        clear hb3 hno hcf kR3 gR gg fR cl
        go_wp2
        have cl := HCL.out
        exact bodyPost_ret (v := .tuple #[repRZ, .int .i64 8]) (by simp [results, Tryz.results11, go_sem, cl, repRZ, repR, P.Sup.zero]) rfl (HFIN.out _)
      · have HSP := Lib.hid (show opens np img = some (s, pl, sl, st) by rw [HOP.out, hsp]; rfl)
        obtain ⟨aP, cP, hvP, -⟩ := OV.form r1
        obtain ⟨aT, cT, hvT, -⟩ := OB.form r2
        obtain ⟨aS, cS, hvS, -⟩ := OB.form r3
        obtain ⟨aG, cG, hvG, -⟩ := OV.form r4
        obtain ⟨nP, hnP⟩ : ∃ n, n = st.ps.length := ⟨_, rfl⟩
        obtain ⟨nT, hnT⟩ : ∃ n, n = st.tx.length := ⟨_, rfl⟩
        obtain ⟨nS, hnS⟩ : ∃ n, n = sl.length := ⟨_, rfl⟩
        obtain ⟨nG, hnG⟩ : ∃ n, n = (pgsTo st np).length := ⟨_, rfl⟩
        rw [← hnP] at hvP
        rw [← hnT] at hvT
        rw [← hnS] at hvS
        rw [← hnG] at hvG
        subst hvP hvT hvS hvG
        have hwc : w.heap.size ≤ wc.heap.size := HBc.out.size
        have hcf := fun o : Obj => (chg14 (Chg.refl (fun j => j = w.heap.size) w3) (.inr rfl) (.int .i64 s.g) (.int .i64 s.p) (.int .i64 s.r) (.int .i64 s.h) (.int .i64 s.b) (.int .i64 s.l) (.int .i64 s.s) (.int .i64 s.f) (.int .i64 pl) (.slice aP nP cP) (.slice aT nT cT) (.slice aS nS cS) (.slice aG nG cG) (.int .i64 s.h)).alloc o
        have cl := fun o : Obj => cell_blk (alloc_old (blk14 kR3 (.int .i64 s.g) (.int .i64 s.p) (.int .i64 s.r) (.int .i64 s.h) (.int .i64 s.b) (.int .i64 s.l) (.int .i64 s.s) (.int .i64 s.f) (.int .i64 pl) (.slice aP nP cP) (.slice aT nT cT) (.slice aS nS cS) (.slice aG nG cG) (.int .i64 s.h)) o)
        have hw3 : w.heap.size < wc.heap.size := lR
        have HREP := Lib.hid (fun o : Obj => (show RepIs _ w.heap.size np st sl (.slice aP nP cP) (.slice aT nT cT) (.slice aS nS cS) (.slice aG nG cG) from
          ⟨(OVc.chg r1 (hcf o) (OV.far r1 hw3)).mono hwc, (OB.chg r2 (hcf o) (OB.far r2 hw3)).mono hwc, (OB.chg r3 (hcf o) (OB.far r3 hw3)).mono hwc, (OVc.chg r4 (hcf o) (OV.far r4 hw3)).mono hwc⟩))
        have HFIN := Lib.hid (fun o : Obj => (show ROend np img w (.returned (.tuple #[.agg (repR s pl (.slice aP nP cP) (.slice aT nT cT) (.slice aS nS cS) (.slice aG nG cG) s.h), .int .i64 0])) _ from
          ⟨below_chg hB3 (hcf o) hB3.size (fun i e => by omega), .inr ⟨s, pl, sl, st, .slice aP nP cP, .slice aT nT cT, .slice aS nS cS, .slice aG nG cG, s.h, HSP.out, rfl, HREP.out o⟩⟩))
        have HCL := Lib.hid cl
        unfold repR
        clear hb3 hsp hcf kR3 gR gg fR cl r1 r2 r3 r4 hnP hnT hnS hnG
        go_wp2
        have cl := HCL.out
        exact bodyPost_ret (v := .tuple #[.agg (repR s pl (.slice aP nP cP) (.slice aT nT cT) (.slice aS nS cS) (.slice aG nG cG) s.h), .int .i64 0]) (by simp [results, Tryz.results11, go_sem, cl, repR]) rfl (HFIN.out _)
end Go.Proofs.YtnjpaanjgbfbaaaGreat
