/- The reference: Walk, to its end. Printed by gen_rfj.py. -/
import Derived.Test.YtnjpaanjgbfbaaaGreatJ40
import Derived.Test.YtnjpaanjgbfbaaaGreatJ39
namespace Go.Proofs.YtnjpaanjgbfbaaaGreat
set_option linter.unusedVariables false
set_option linter.unusedSimpArgs false
open Go.RowKit

/-- Chain, whether something is wrong already or not. -/
theorem rchain_both (C : RC) (S : Nat → Prop) (st : P.St) (vS : Value) (n0 : Nat) (kd : UInt8) (w : World) (bd : Bool) (h : RW C S w st vS bd) (hn0 : n0 < 1000000) (hk0 : kd.toNat ≠ 0) (hk1 : kd.toNat ≠ 120) :
    Calls Tryz.prog 48 #[.pointer (some ⟨C.q, 0, none⟩), .int .i64 (n0 : Int), .int .u8 (kd.toNat : Int)] w fun e w' =>
      ∃ a n c out st' bd', e = .returned (.slice a n c) ∧ OB w' w.heap.size (.slice a n c) out ∧ RW C S w' st' vS bd' ∧ Stp S w S w' ∧ (bd' = false → bd = false ∧ P.chainW C.img C.np (C.np + 1) n0 [] st = some (out, st')) ∧ (bd' = true → bd = true ∨ P.chainW C.img C.np (C.np + 1) n0 [] st = none) ∧ out.length ≤ 1048824 := by
  cases bd
  · refine (rchain_any C S st vS n0 kd w h hn0 hk0 hk1).mono ?_
    rintro e w' ⟨a, n, c, out, st', bd, h1, h2, h3, h4, h5, h6, h7⟩
    exact ⟨a, n, c, out, st', bd, h1, h2, h3, h4, fun e => ⟨rfl, h5 e⟩, fun e => .inr (h6 e), h7⟩
  · refine (rchain_bad C S st vS n0 kd.toNat w h).mono ?_
    rintro e w' ⟨rfl, rfl⟩
    exact ⟨none, 0, 0, [], st, true, rfl, OB.nil _ _, h, Stp.refl _ _, (fun e => by cases e), fun _ => .inl rfl, by simp⟩
/-- What the tree comes to, ahead of its being held against the superblock. -/
def treeR (img : List UInt8) (np : Nat) (s : P.Sup) : Option (P.Sm × P.St) :=
  if s.r = 0 then some (⟨0, 0, 0⟩, P.St.new) else P.below img np true (s.h.toNat - 1) s.r.toNat true P.St.new
theorem treeW_R {img : List UInt8} {np : Nat} {s : P.Sup} (hm : s.may = true) : P.treeW img np true s P.St.new = (treeR img np s).bind fun x => if x.1.b = s.b ∧ x.1.l = s.l then some x.2 else none := by
  obtain ⟨-, -, -, -, -, -, -, g8, g9, g10⟩ := s.may_iff.1 hm
  unfold P.treeW treeR
  by_cases hr : s.r = 0
  · rw [if_pos hr, if_pos hr]
    have := g10.2 hr
    simp only [Option.bind_some]
    rw [if_pos ⟨by omega, by omega⟩]
  · rw [if_neg hr, if_neg hr]
theorem rw_new (a : Option Addr) (c np : Nat) (img : List UInt8) (w w1 w2 : World) (hr : Rd w a (256 * np) img) (hc : 256 * np ≤ c) (h8 : 8 ≤ np) (h4 : np ≤ 4096) (hb : Below w.heap.size w w1)
    (hw2 : w2 = (w1.alloc (.cells (zr np) 5)).alloc (.cells #[.slice a (256 * np) c, .slice (some ⟨w1.heap.size, 0, none⟩) np np, .int .i64 0, .int .i64 0, .int .i64 0, .int .i64 0, .int .i64 0, .int .i64 0, .int .i64 0, .int .i64 0, .int .i64 0, .slice none 0 0, .slice none 0 0, .slice none 0 0, .slice none 0 0, .int .i64 0, .bool false] 116)) :
    RW ⟨w1.heap.size + 2, w1.heap.size + 1, w1.heap.size, a, c, np, img⟩ (fun j => j = w1.heap.size + 1 ∨ j = w1.heap.size) w2 P.St.new (.slice none 0 0) false ∧ Below w1.heap.size w1 w2 ∧ w2.heap.size = w1.heap.size + 2 := by
  have hb2 : Below w1.heap.size w1 w2 := by rw [hw2]; exact ((Below.refl _ w1).alloc (Nat.le_refl _) _).alloc (by simp) _
  have hz : w2.heap.size = w1.heap.size + 2 := by rw [hw2]; simp
  have k1 : w2.heap[w1.heap.size]? = some (.cells (zr np) 5 (0, 0)) := by rw [hw2]; exact alloc_old (alloc_new _ _ _ rfl) _
  have k2 : w2.heap[w1.heap.size + 1]? = some (.cells #[.slice a (256 * np) c, .slice (some ⟨w1.heap.size, 0, none⟩) np np, .int .i64 0, .int .i64 0, .int .i64 0, .int .i64 0, .int .i64 0, .int .i64 0, .int .i64 0, .int .i64 0, .int .i64 0, .slice none 0 0, .slice none 0 0, .slice none 0 0, .slice none 0 0, .int .i64 0, .bool false] 116 (0, 0)) := by rw [hw2]; exact alloc_new _ _ _ (by simp)
  have hl : img.length = 256 * np := hr.1
  have hp : ∀ p, a = some p → p.block < w1.heap.size := fun p e => Nat.lt_of_lt_of_le (hr.lt (by omega) p e) hb.size
  refine ⟨⟨⟨⟨Nat.lt_succ_self _, by simp only; omega, by simp, fun p e => by have := hp p e; simp only; omega, hc, h8, h4, hl⟩, by simp only; omega⟩, fun j e => by rcases e with e | e <;> omega, ⟨.inl rfl, .inr rfl, fun j e => ?_⟩, (hr.below hb).below hb2, by simp [P.St.new], fun k hk => absurd rfl hk, _, _, List.replicate np 0, k2, k1, ⟨by simp, fun i hi => ?_⟩, OV.nil _ _ _ _, OB.nil _ _, fun k hk => by simp [Value.ownBlock] at hk, fun k hk => by simp [Value.ownBlock] at hk, fun k hk => by simp [Value.ownBlock] at hk⟩, hb2, hz⟩
  · rcases e with e | e
    · exact .inl e
    · exact .inr (.inl e)
  · simp [P.St.new]
theorem blkQ {w1 : World} {B : Nat} {a0 a1 a2 a3 a4 a5 a6 a7 a8 a9 a10 a11 a12 a13 a14 a15 a16 : Value} {t : TypeId} {fr : Nat × Nat} (h : w1.heap[B]? = some (.cells #[a0, a1, a2, a3, a4, a5, a6, a7, a8, a9, a10, a11, a12, a13, a14, a15, a16] t fr)) (u2 u3 u4 u5 u6 u7 u8 u9 u10 u15 : Value) :
    ((((((((((w1.setCell ⟨B, 2, none⟩ u2).setCell ⟨B, 3, none⟩ u3).setCell ⟨B, 4, none⟩ u4).setCell ⟨B, 5, none⟩ u5).setCell ⟨B, 6, none⟩ u6).setCell ⟨B, 7, none⟩ u7).setCell ⟨B, 8, none⟩ u8).setCell ⟨B, 9, none⟩ u9).setCell ⟨B, 10, none⟩ u10).setCell ⟨B, 15, none⟩ u15).heap[B]? = some (.cells #[a0, a1, u2, u3, u4, u5, u6, u7, u8, u9, u10, a11, a12, a13, a14, u15, a16] t fr) := by
  have h2 := blk_setCell h 2 u2
  simp only [List.setIfInBounds_toArray, List.set_cons_zero, List.set_cons_succ] at h2
  have h3 := blk_setCell h2 3 u3
  simp only [List.setIfInBounds_toArray, List.set_cons_zero, List.set_cons_succ] at h3
  have h4 := blk_setCell h3 4 u4
  simp only [List.setIfInBounds_toArray, List.set_cons_zero, List.set_cons_succ] at h4
  have h5 := blk_setCell h4 5 u5
  simp only [List.setIfInBounds_toArray, List.set_cons_zero, List.set_cons_succ] at h5
  have h6 := blk_setCell h5 6 u6
  simp only [List.setIfInBounds_toArray, List.set_cons_zero, List.set_cons_succ] at h6
  have h7 := blk_setCell h6 7 u7
  simp only [List.setIfInBounds_toArray, List.set_cons_zero, List.set_cons_succ] at h7
  have h8 := blk_setCell h7 8 u8
  simp only [List.setIfInBounds_toArray, List.set_cons_zero, List.set_cons_succ] at h8
  have h9 := blk_setCell h8 9 u9
  simp only [List.setIfInBounds_toArray, List.set_cons_zero, List.set_cons_succ] at h9
  have h10 := blk_setCell h9 10 u10
  simp only [List.setIfInBounds_toArray, List.set_cons_zero, List.set_cons_succ] at h10
  have h15 := blk_setCell h10 15 u15
  simp only [List.setIfInBounds_toArray, List.set_cons_zero, List.set_cons_succ] at h15
  exact h15
theorem chgQ (w1 : World) (B : Nat) (u2 u3 u4 u5 u6 u7 u8 u9 u10 u15 : Value) : Chg (fun j => j = B) w1 ((((((((((w1.setCell ⟨B, 2, none⟩ u2).setCell ⟨B, 3, none⟩ u3).setCell ⟨B, 4, none⟩ u4).setCell ⟨B, 5, none⟩ u5).setCell ⟨B, 6, none⟩ u6).setCell ⟨B, 7, none⟩ u7).setCell ⟨B, 8, none⟩ u8).setCell ⟨B, 9, none⟩ u9).setCell ⟨B, 10, none⟩ u10).setCell ⟨B, 15, none⟩ u15) :=
  ((((((((((setCell_chg w1 B 2 u2).trans (setCell_chg _ B 3 u3)).trans (setCell_chg _ B 4 u4)).trans (setCell_chg _ B 5 u5)).trans (setCell_chg _ B 6 u6)).trans (setCell_chg _ B 7 u7)).trans (setCell_chg _ B 8 u8)).trans (setCell_chg _ B 9 u9)).trans (setCell_chg _ B 10 u10)).trans (setCell_chg _ B 15 u15))
set_option maxRecDepth 100000 in
set_option maxHeartbeats 12800000 in
theorem rwalk_main (a : Option Addr) (n c np : Nat) (img : List UInt8) (s : P.Sup) (w : World) (hr : Rd w a n img) (hc : n ≤ c) (hn : n = 256 * np) (h8 : 8 ≤ np) (h4 : np ≤ 4096) (hchk : s.chk = 0) (hp : s.p = (np : Int)) :
    Calls Tryz.prog 29 #[.slice a n c, supV s] w (RWend np img s w) := by
  have hmay : s.may = true := by
    rcases s.chk_cases with ⟨m, -⟩ | ⟨-, e⟩
    · exact m
    · rw [hchk] at e; cases e
  have HMAY := Lib.hid (s.may_iff.1 hmay)
  subst hn
  obtain ⟨w0, hw0⟩ : ∃ w0, w0 = (w.alloc (.cells #[.int .i64 s.g, .int .i64 (np : Int), .int .i64 s.r, .int .i64 s.h, .int .i64 s.b, .int .i64 s.l, .int .i64 s.s, .int .i64 s.f] 25)).alloc (.cells #[.int .i64 0, .int .i64 0, .int .i64 0, .int .i64 0, .int .i64 0, .int .i64 0, .int .i64 0, .int .i64 0, .int .i64 0, .slice none 0 0, .slice none 0 0, .slice none 0 0, .slice none 0 0, .int .i64 0] 39) := ⟨_, rfl⟩
  have hb0 : Below w.heap.size w w0 := by rw [hw0]; exact ((Below.refl _ w).alloc (Nat.le_refl _) _).alloc (by simp) _
  have k0 : w0.heap[w.heap.size]? = some (.cells #[.int .i64 s.g, .int .i64 (np : Int), .int .i64 s.r, .int .i64 s.h, .int .i64 s.b, .int .i64 s.l, .int .i64 s.s, .int .i64 s.f] 25 (0, 0)) := by rw [hw0]; exact alloc_old (alloc_new _ _ _ rfl) _
  have r0 : w0.heap[w.heap.size + 1]? = some (.cells #[.int .i64 0, .int .i64 0, .int .i64 0, .int .i64 0, .int .i64 0, .int .i64 0, .int .i64 0, .int .i64 0, .int .i64 0, .slice none 0 0, .slice none 0 0, .slice none 0 0, .slice none 0 0, .int .i64 0] 39 (0, 0)) := by rw [hw0]; exact alloc_new _ _ _ (by simp)
  have g0 := cell_blk k0
  have HCK := Lib.hid (rchk_any s w0)
  unfold supV at HCK ⊢
  rw [hp] at HCK ⊢
  rw [hchk] at HCK
  have HC := Lib.hid hchk
  have HP := Lib.hid hp
  have HM := Lib.hid hmay
  have HB0 := Lib.hid hb0
  have R0 := Lib.hid r0
  have K0 := Lib.hid k0
  have HR := Lib.hid hr
  obtain ⟨NP, hNP⟩ : ∃ NP, NP = 256 * np := ⟨_, rfl⟩
  have q3 : (NP : Int) / 256 = (np : Int) := by omega
  have nb : (NP : Int) ≤ 1048576 := by omega
  have hmk := mk_zr np (by omega)
  rw [← hNP] at hr hc HR ⊢
  have HNP := Lib.hid hNP
  clear hb0 k0 r0 hchk hr hp hmay hNP
  go_enter Tryz.func29, Tryz.ntmps29
  go_wp2_with fail
  rw [← hw0]
  clear hw0
  refine HCK.out.mono ?_
  rintro e w1 ⟨rfl, hb1⟩
  have R1 := Lib.hid ((hb1.block _ (lt_of_block R0.out)).trans R0.out)
  have K1 := Lib.hid ((hb1.block _ (lt_of_block K0.out)).trans K0.out)
  have ga := cell_blk K1.out
  have HB1 := Lib.hid (HB0.out.trans (hb1.mono HB0.out.size))
  obtain ⟨w2, hw2⟩ : ∃ w2, w2 = (w1.alloc (.cells (zr np) 5)).alloc (.cells #[.slice a (256 * np) c, .slice (some ⟨w1.heap.size, 0, none⟩) np np, .int .i64 0, .int .i64 0, .int .i64 0, .int .i64 0, .int .i64 0, .int .i64 0, .int .i64 0, .int .i64 0, .int .i64 0, .slice none 0 0, .slice none 0 0, .slice none 0 0, .slice none 0 0, .int .i64 0, .bool false] 116) := ⟨_, rfl⟩
  have HRN := Lib.hid (rw_new a c np img w w1 w2 (by rw [← HNP.out]; exact HR.out) (by rw [← HNP.out]; exact hc) h8 h4 HB1.out hw2)
  rw [← HNP.out] at hw2
  obtain ⟨C, hC⟩ : ∃ C : RC, C = ⟨w1.heap.size + 2, w1.heap.size + 1, w1.heap.size, a, c, np, img⟩ := ⟨_, rfl⟩
  obtain ⟨S, hS⟩ : ∃ S : Nat → Prop, S = fun j => j = w1.heap.size + 1 ∨ j = w1.heap.size := ⟨_, rfl⟩
  rw [← hC, ← hS] at HRN
  have H2 := Lib.hid HRN.out.1
  have HB2 := Lib.hid HRN.out.2.1
  have hz2 := HRN.out.2.2
  have hnS : ∀ j, S j → j = w1.heap.size + 1 ∨ j = w1.heap.size := fun j e => by rw [hS] at e; exact e
  have HNS := Lib.hid hnS
  have K2 := Lib.hid ((HB2.out.block _ (lt_of_block K1.out)).trans K1.out)
  have R2 := Lib.hid ((HB2.out.block _ (lt_of_block R1.out)).trans R1.out)
  obtain ⟨w3, hw3⟩ : ∃ w3, w3 = w2.alloc (.cells #[.int .i64 0, .int .i64 0, .int .i64 0] 118) := ⟨_, rfl⟩
  have hb3 : Below w2.heap.size w2 w3 := by rw [hw3]; exact (Below.refl _ w2).alloc (Nat.le_refl _) _
  have k3 : w3.heap[w2.heap.size]? = some (.cells #[.int .i64 0, .int .i64 0, .int .i64 0] 118 (0, 0)) := by rw [hw3]; exact alloc_new _ _ _ rfl
  have HB3 := Lib.hid hb3
  have K3 := Lib.hid k3
  have H3 := Lib.hid (H2.out.below hb3)
  have HQ := Lib.hid (show C.q = w1.heap.size + 1 ∧ C.g = w1.heap.size ∧ C.B = w1.heap.size + 2 ∧ C.np = np ∧ C.img = img from by rw [hC]; exact ⟨rfl, rfl, rfl, rfl, rfl⟩)
  have lw1 : w.heap.size + 2 ≤ w1.heap.size := by have := lt_of_block R1.out; omega
  have HL1 := Lib.hid lw1
  have KS3 := Lib.hid ((hb3.block _ (lt_of_block K2.out)).trans K2.out)
  have gs3 := cell_blk KS3.out
  obtain ⟨TR, hTR⟩ : ∃ TR, TR = treeR img np s := ⟨_, rfl⟩
  have HTR := Lib.hid hTR
  obtain ⟨G, hG⟩ : ∃ G, G = w2.heap.size := ⟨_, rfl⟩
  obtain ⟨Q, hQ⟩ : ∃ Q, Q = w1.heap.size + 1 := ⟨_, rfl⟩
  have HG := Lib.hid hG
  have HQQ := Lib.hid hQ
  clear hb1 g0 hTR hC hS hnS hb3 k3 hz2
  go_upto_region 8 with (fail)
  rw [← hw2]
  rw [show w1.heap.size + 1 + 1 = G by have := HG.out; have := HRN.out.2.2; omega, ← hw3, ← hQ]
  clear hw3 hw2 ga hQ hG
  go_upto_if 33 with (fail)
  go_cut [9] from 10 (fun s9 wx => ∃ (bd : Bool) (st1 : P.St) (S1 : Nat → Prop) (x y z : Int), RW C S1 wx st1 (.slice none 0 0) bd ∧ Stp S w2 S1 wx ∧ wx.heap[G]? = some (.cells #[.int .i64 x, .int .i64 y, .int .i64 z] 118 (0, 0)) ∧ ¬ S1 G ∧ (bd = false → TR = some (⟨x, y, z⟩, st1)) ∧ (bd = true → TR = none))
  case first =>
    have hnSG : ¬ S G := fun e => by have := HNS.out _ e; have := HG.out; have := HRN.out.2.2; omega
    by_cases hr0 : s.r = 0
    · have q5 : (s.r != 0) = false := by simpa using hr0
      have HTR0 := Lib.hid (show TR = some (⟨0, 0, 0⟩, P.St.new) by rw [HTR.out]; unfold treeR; rw [if_pos hr0])
      clear hr0
      go_wp2
      go_meet
      case rel => exact ⟨false, P.St.new, S, 0, 0, 0, H3.out, Stp.below HB3.out, by rw [HG.out]; exact K3.out, hnSG, fun _ => HTR0.out, (fun e => by cases e)⟩
    · have q5 : (s.r != 0) = true := by simpa using hr0
      obtain ⟨nr, h9, hnr, hh9, hnr2, hh2⟩ : ∃ nr h9 : Nat, s.r = (nr : Int) ∧ s.h = ((h9 + 1 : Nat) : Int) ∧ nr < 1000000 ∧ h9 < 100 := by
        obtain ⟨g1, g2, g3, g4, g5, g6, g7, g8, g9, g10⟩ := HMAY.out
        have hh : s.h ≠ 0 := fun e => hr0 (g7.1 e)
        exact ⟨s.r.toNat, s.h.toNat - 1, by omega, by omega, by omega, by omega⟩
      have HTR0 := Lib.hid (show TR = P.below img np true h9 nr true P.St.new by
        rw [HTR.out]
        unfold treeR
        rw [if_neg hr0, hnr, hh9]
        rfl)
      have hTA := rtree_any C (.slice none 0 0) h9 (by omega) S P.St.new nr true w3 H3.out hnr2 (fun k hk => by cases hk) (by simp [P.St.new])
      rw [HQ.out.2.2.2.1, HQ.out.2.2.2.2, HQ.out.1, ← HQQ.out] at hTA
      have HTA := Lib.hid hTA
      have sub1 : s.h - 1 = (h9 : Int) := by omega
      have bh1 : 1 ≤ s.h := by omega
      have bh2 : s.h ≤ 101 := by omega
      have HNR := Lib.hid hnr
      rw [hnr] at gs3
      clear hr0 hnr hh9 hTA
      go_wp2_with fail
      refine HTA.out.mono ?_
      intro e w4 hend
      obtain ⟨x, y, z, bd4, st4, S4, rfl, g4', b4, hk4, hs4⟩ : ∃ (x y z : Int) (bd4 : Bool) (st4 : P.St) (S4 : Nat → Prop), e = .returned (.agg #[.int .i64 x, .int .i64 y, .int .i64 z]) ∧ (bd4 = false → TR = some (⟨x, y, z⟩, st4)) ∧ (bd4 = true → TR = none) ∧ RW C S4 w4 st4 (.slice none 0 0) bd4 ∧ Stp S w3 S4 w4 := by
        rcases hend with ⟨⟨xp, xb, xl⟩, st', S', h1, h2, h3, h4⟩ | ⟨h1, a, b, c, st', S', h2, h3, h4⟩
        · exact ⟨xp, xb, xl, false, st', S', h2, fun _ => HTR0.out.trans h1, (fun e => by cases e), h3, h4⟩
        · exact ⟨a, b, c, true, st', S', h2, (fun e => by cases e), fun _ => HTR0.out.trans h1, h3, h4⟩
      have kG4 : w4.heap[G]? = some (.cells #[.int .i64 0, .int .i64 0, .int .i64 0] 118 (0, 0)) := Wk.apart hs4 (by rw [HG.out]; exact K3.out) hnSG
      have hnS4 : ¬ S4 G := fun hs => hnSG (hs4.2 _ (by rw [HG.out]; exact lt_of_block K3.out) hs)
      have gG := cell_blk kG4
      have fG := free_blk kG4
      have HK4 := Lib.hid hk4
      have HS4 := Lib.hid hs4
      have KG4 := Lib.hid kG4
      have G4 := Lib.hid g4'
      have B4 := Lib.hid b4
      clear hend hk4 hs4 kG4 g4' b4
      go_wp2
      go_meet
      case rel =>
        have hc4 := chgS w4 G (.int .i64 x) (.int .i64 y) (.int .i64 z)
        have hs := (Stp.below HB3.out).trans HS4.out
        exact ⟨bd4, st4, S4, x, y, z, HK4.out.local G (by have := HQ.out.2.2.1; have := HG.out; have := HRN.out.2.2; omega) hnS4 hc4, ⟨hs.1.then hc4 (fun i hi e => by have := HG.out; omega), hs.2⟩, blkS KG4.out _ _ _, hnS4, G4.out, B4.out⟩
  case rest =>
    obtain ⟨bd1, st1, S1, x, y, z, hk1, hs1, hG1, hnG1, hg1, hb1⟩ := hcut
    have HK1 := Lib.hid hk1
    have HS1 := Lib.hid hs1
    have KG1 := Lib.hid hG1
    have hnS2 : ∀ j, j < w1.heap.size → ¬ S1 j := fun j hj hs => by
      have h1 := hs1.2 j (by have := HRN.out.2.2; omega) hs
      have := HNS.out _ h1
      omega
    have KS1 := Lib.hid (Wk.apart hs1 K2.out (fun e => by have := HNS.out _ e; omega))
    have KR1 := Lib.hid (Wk.apart hs1 R2.out (fun e => by have := HNS.out _ e; omega))
    have HTW := Lib.hid (show P.treeW img np true s P.St.new = TR.bind fun x => if x.1.b = s.b ∧ x.1.l = s.l then some x.2 else none by rw [treeW_R HM.out, ← HTR.out])
    have gx := cell_blk hG1
    have gs := cell_blk KS1.out
    obtain ⟨vP1, vT1, hq1⟩ := hk1.cells
    rw [HQ.out.1, ← HQQ.out] at hq1
    have fq1 := free_blk hq1
    have gq1 := cell_blk hq1
    unfold rwC at gq1
    have HG1 := Lib.hid hg1
    have HBX1 := Lib.hid hb1
    obtain ⟨nq, hnq⟩ : ∃ nq : Bool, nq = decide (¬ (y = s.b ∧ z = s.l)) := ⟨_, rfl⟩
    have HNQ := Lib.hid hnq
    clear hk1 hs1 hG1 hg1 hb1 hq1 hnq gs3
    go_upto_region 10 with (fail)
    go_cut [52] from 10 (fun c wx => c = .bool nq ∧ wc = wx)
    case first =>
      by_cases e1 : y = s.b
      · have q6 : (y != s.b) = false := by simpa using e1
        by_cases e2 : z = s.l
        · have q7 : (z != s.l) = false := by simpa using e2
          obtain rfl : nq = false := by rw [HNQ.out]; simp [e1, e2]
          clear e1 e2
          go_wp2
          go_meet
          case rel => exact ⟨rfl, rfl⟩
        · have q7 : (z != s.l) = true := by simpa using e2
          obtain rfl : nq = true := by rw [HNQ.out]; simp [e2]
          clear e1 e2
          go_wp2
          go_meet
          case rel => exact ⟨rfl, rfl⟩
      · have q6 : (y != s.b) = true := by simpa using e1
        obtain rfl : nq = true := by rw [HNQ.out]; simp [e1]
        clear e1
        go_wp2
        go_meet
        case rel => exact ⟨rfl, rfl⟩
    case rest =>
    obtain ⟨rfl, rfl⟩ := hcut
    have HFL := Lib.hid (HK1.out.flag true)
    rw [HQ.out.1, ← HQQ.out] at HFL
    go_upto_if 52 with (fail)
    go_cut [9] from 10 (fun s9 wx => ∃ bd2 : Bool, RW C S1 wx st1 (.slice none 0 0) bd2 ∧ Stp S1 wc S1 wx ∧ (bd2 = false → P.treeW img np true s P.St.new = some st1) ∧ (bd2 = true → P.treeW img np true s P.St.new = none))
    case first =>
      cases nq
      · have HBB := Lib.hid (show (bd1 = false → P.treeW img np true s P.St.new = some st1) ∧ (bd1 = true → P.treeW img np true s P.St.new = none) from by
          have h1 : y = s.b ∧ z = s.l := Decidable.not_not.1 (of_decide_eq_false HNQ.out.symm)
          refine ⟨fun e => ?_, fun e => ?_⟩
          · rw [HTW.out, HG1.out e]
            simp only [Option.bind_some]
            rw [if_pos h1]
          · rw [HTW.out, HBX1.out e]
            rfl)
        go_wp2
        go_meet
        case rel => exact ⟨bd1, HK1.out, Stp.refl _ _, HBB.out.1, HBB.out.2⟩
      · have HBB := Lib.hid (show P.treeW img np true s P.St.new = none from by
          have h1 : ¬ (y = s.b ∧ z = s.l) := of_decide_eq_true HNQ.out.symm
          rcases hbd : bd1 with _ | _
          · rw [HTW.out, HG1.out hbd]
            simp only [Option.bind_some]
            rw [if_neg h1]
          · rw [HTW.out, HBX1.out hbd]
            rfl)
        go_wp2
        go_meet
        case rel => exact ⟨true, HFL.out.1, HFL.out.2, (fun e => by cases e), fun _ => HBB.out⟩
    case rest =>
      obtain ⟨bd2, hk2, hs2, ht2, hn2⟩ := hcut
      have HK2 := Lib.hid hk2
      have HS2 := Lib.hid (HS1.out.trans hs2)
      have HT2 := Lib.hid ht2
      have HN2 := Lib.hid hn2
      obtain ⟨⟨ns, hns, hns2⟩, ⟨nf, hnf, hnf2⟩⟩ := supF HC.out
      have KS2 := Lib.hid (Wk.apart HS2.out K2.out (fun e => by have := HNS.out _ e; omega))
      have KR2 := Lib.hid (Wk.apart HS2.out R2.out (fun e => by have := HNS.out _ e; omega))
      have gs2 := cell_blk KS2.out
      rw [hns, hnf] at gs2
      have HNN := Lib.hid (show s.s = (ns : Int) ∧ s.f = (nf : Int) from ⟨hns, hnf⟩)
      have hch := rchain_both C S1 st1 (.slice none 0 0) ns 115 wc bd2 hk2 hns2 (by decide) (by decide)
      rw [HQ.out.2.2.2.1, HQ.out.2.2.2.2, HQ.out.1, ← HQQ.out] at hch
      have HCH := Lib.hid hch
      have hnS1 : ∀ j, wc.heap.size ≤ j → ¬ S1 j := fun j hj hs => by have := hk2.sets _ hs; omega
      have hQc : Q < wc.heap.size := by have := hk2.sets _ hk2.2.2.1.1; have := HQ.out.1; have := HQQ.out; omega
      have HFB := Lib.hid (fun (W : World) (hs : Stp S w2 S1 W) => (show Below w.heap.size w W from by
        refine below_chg (HB1.out.trans (HB2.out.mono (by omega))) hs.1 (by have := HRN.out.2.2; omega) (fun i e => ?_)
        have := HNS.out _ e
        omega))
      clear hk2 hs2 ht2 hn2 gx gs fq1 gq1 hns hnf hch
      go_wp2_with fail
      refine HCH.out.mono ?_
      rintro e w4 ⟨va, vn, vc, out, st2, bd3, rfl, hob, hk3, hs3, hy3, hno3, hlen3⟩
      obtain ⟨vP3, vT3, hq3⟩ := hk3.cells
      have hst := hk3.state (.slice va vn vc)
      rw [HQ.out.1, ← HQQ.out] at hq3 hst
      have gq3 := cell_blk hq3
      have fq3 := free_blk hq3
      unfold rwC at gq3
      have hob3 := hob.chg (setCell_chg w4 Q 13 (.slice va vn vc)) (fun k hk e => by have := (World.ownsRow.lt hob k hk).1; omega)
      obtain ⟨w5, hw5⟩ : ∃ w5, w5 = w4.setCell ⟨Q, 13, none⟩ (.slice va vn vc) := ⟨_, rfl⟩
      rw [← hw5] at hst hob3
      have HOB := Lib.hid hob3
      have HK5 := Lib.hid hst.1
      have HS5 := Lib.hid ((HS2.out.trans hs3).trans hst.2)
      have HY3 := Lib.hid hy3
      have HNO3 := Lib.hid hno3
      have KS5 := Lib.hid (Wk.apart HS5.out K2.out (fun e => by have := HNS.out _ e; omega))
      have KR5 := Lib.hid (Wk.apart HS5.out R2.out (fun e => by have := HNS.out _ e; omega))
      have gs5 := cell_blk KS5.out
      rw [HNN.out.1, HNN.out.2] at gs5
      have hch := rchain_both C S1 st2 (.slice va vn vc) nf 102 w5 bd3 hst.1 hnf2 (by decide) (by decide)
      rw [HQ.out.2.2.2.1, HQ.out.2.2.2.2, HQ.out.1, ← HQQ.out] at hch
      have HCH2 := Lib.hid hch
      have LOB := Lib.hid (show ∀ k, (Value.slice va vn vc).ownBlock = some k → wc.heap.size ≤ k from fun k hk => (World.ownsRow.lt hob k hk).1)
      have gs4 := cell_blk (Wk.apart (HS2.out.trans hs3) K2.out (fun e => by have := HNS.out _ e; omega))
      rw [HNN.out.1, HNN.out.2] at gs4
      clear hob hk3 hs3 hy3 hno3 hq3 hst hob3 hch gs2
      go_wp2_with fail
      rw [← hw5]
      clear hw5
      refine HCH2.out.mono ?_
      rintro e w6 ⟨fa, fn, fc, fout, st3, bd4, rfl, hob4, hk4, hs4, hy4, hno4, hlen4⟩
      have HOUT := Lib.hid (HOB.out.chg hs4.1 (fun k hk => hnS1 k (LOB.out k hk)))
      have HS6 := Lib.hid (HS5.out.trans hs4)
      have HK6 := Lib.hid hk4
      have KS6 := Lib.hid (Wk.apart HS6.out K2.out (fun e => by have := HNS.out _ e; omega))
      have KR6 := Lib.hid (Wk.apart HS6.out R2.out (fun e => by have := HNS.out _ e; omega))
      have gs6 := cell_blk KS6.out
      have gr6 := cell_blk KR6.out
      have fr6 := free_blk KR6.out
      obtain ⟨vP6, vT6, hq6⟩ := hk4.cells
      rw [HQ.out.1, ← HQQ.out] at hq6
      have HQ6' := Lib.hid hq6
      have HQC := Lib.hid (show rwC C vP6 vT6 (.slice va vn vc) false = #[.slice C.a (256 * np) C.c, .slice (some ⟨C.g, 0, none⟩) np np, .int .i64 0, .int .i64 0, .int .i64 0, .int .i64 0, .int .i64 0, .int .i64 0, .int .i64 0, .int .i64 0, .int .i64 0, vP6, vT6, .slice va vn vc, .slice none 0 0, .int .i64 0, .bool false] from by unfold rwC; rw [HQ.out.2.2.2.1])
      have gq6 := cell_blk hq6
      have fq6 := free_blk hq6
      unfold rwC at gq6
      have hfn := hob4.len
      obtain ⟨fa', fc', hfe, hrf, -⟩ := hob4.form
      injection hfe with e1 e2 e3
      subst e1
      rw [← e2] at hrf
      have HRF := Lib.hid hrf
      have HFN := Lib.hid hfn
      have HY4 := Lib.hid hy4
      have HNO4 := Lib.hid hno4
      have flen : fn ≤ 1048824 := by omega
      have HSB := Lib.hid (show bd4 = true → rwalk np img s = none from fun e => by
        unfold rwalk
        rw [if_pos HP.out, HNN.out.1, HNN.out.2, Int.toNat_natCast, Int.toNat_natCast]
        rcases HNO4.out e with e3 | e3
        · rcases HNO3.out e3 with e2 | e2
          · rw [HN2.out e2]; rfl
          · rcases hb2 : bd2 with _ | _
            · rw [HT2.out hb2]
              simp only [Option.bind_some]
              rw [e2]
              rfl
            · rw [HN2.out hb2]; rfl
        · rcases hb3 : bd3 with _ | _
          · obtain ⟨hb2, h1⟩ := HY3.out hb3
            rw [HT2.out hb2]
            simp only [Option.bind_some]
            rw [h1]
            simp only [Option.bind_some]
            rw [e3]
            rfl
          · rcases HNO3.out hb3 with e2 | e2
            · rw [HN2.out e2]; rfl
            · rcases hb2 : bd2 with _ | _
              · rw [HT2.out hb2]
                simp only [Option.bind_some]
                rw [e2]
                rfl
              · rw [HN2.out hb2]; rfl)
      have HSG := Lib.hid (show bd4 = false → rwalk np img s = if P.freeOk np fout st3 = true then some (out, st3) else none from fun e => by
        unfold rwalk
        obtain ⟨hb3, h2⟩ := HY4.out e
        obtain ⟨hb2, h1⟩ := HY3.out hb3
        rw [if_pos HP.out, HNN.out.1, HNN.out.2, Int.toNat_natCast, Int.toNat_natCast, HT2.out hb2]
        simp only [Option.bind_some]
        rw [h1]
        simp only [Option.bind_some]
        rw [h2]
        rfl)
      have cl := cell_blk (blk14 KR6.out (.int .i64 0) (.int .i64 0) (.int .i64 0) (.int .i64 0) (.int .i64 0) (.int .i64 0) (.int .i64 0) (.int .i64 0) (.int .i64 0) (.slice none 0 0) (.slice none 0 0) (.slice none 0 0) (.slice none 0 0) (.int .i64 0))
      have HBAD := Lib.hid (fun (e : rwalk np img s = none) => (show RWend np img s w (.returned (.tuple #[repRZ, .int .i64 8])) ((((((((((((((w6.setCell ⟨w.heap.size + 1, 0, none⟩ (.int .i64 0)).setCell ⟨w.heap.size + 1, 1, none⟩ (.int .i64 0)).setCell ⟨w.heap.size + 1, 2, none⟩ (.int .i64 0)).setCell ⟨w.heap.size + 1, 3, none⟩ (.int .i64 0)).setCell ⟨w.heap.size + 1, 4, none⟩ (.int .i64 0)).setCell ⟨w.heap.size + 1, 5, none⟩ (.int .i64 0)).setCell ⟨w.heap.size + 1, 6, none⟩ (.int .i64 0)).setCell ⟨w.heap.size + 1, 7, none⟩ (.int .i64 0)).setCell ⟨w.heap.size + 1, 8, none⟩ (.int .i64 0)).setCell ⟨w.heap.size + 1, 9, none⟩ (.slice none 0 0)).setCell ⟨w.heap.size + 1, 10, none⟩ (.slice none 0 0)).setCell ⟨w.heap.size + 1, 11, none⟩ (.slice none 0 0)).setCell ⟨w.heap.size + 1, 12, none⟩ (.slice none 0 0)).setCell ⟨w.heap.size + 1, 13, none⟩ (.int .i64 0)) from by
        refine ⟨?_, .inr (.inl ⟨HC.out, e, rfl⟩)⟩
        have h1 := HFB.out w6 HS6.out
        exact below_chg h1 (chg14 (Chg.refl (fun j => j = w.heap.size + 1) w6) (.inr rfl) (.int .i64 0) (.int .i64 0) (.int .i64 0) (.int .i64 0) (.int .i64 0) (.int .i64 0) (.int .i64 0) (.int .i64 0) (.int .i64 0) (.slice none 0 0) (.slice none 0 0) (.slice none 0 0) (.slice none 0 0) (.int .i64 0)) (by have := h1.size; omega) (fun i e => by omega)))
      obtain ⟨M, hM⟩ : ∃ M, M = (np + 7) / 8 := ⟨_, rfl⟩
      have hNd : ((np : Int) + 7) / 8 = (M : Int) := by omega
      have M1 : M ≤ 600 := by omega
      have HMM := Lib.hid hM
      have n2 : (np : Int) ≤ 4096 := by omega
      clear hob4 hk4 hs4 hy4 hno4 hq6 hfn e2 e3 hrf hlen4 hlen3 gs5 gs4 gq3 fq3 hM
      by_cases hgo : bd4 = false ∧ fn = M
      rotate_left
      · have HNO := Lib.hid (show rwalk np img s = none by
          rcases hb : bd4 with _ | _
          · rw [HSG.out hb, if_neg]
            intro e
            unfold P.freeOk at e
            simp only [Bool.and_eq_true, decide_eq_true_eq] at e
            refine hgo ⟨hb, ?_⟩
            rw [HFN.out, HMM.out]
            exact e.1
          · exact HSB.out hb)
        have hcs : (bd4 = true) ∨ (bd4 = false ∧ fn ≠ M) := by
          rcases hb : bd4 with _ | _
          · exact .inr ⟨rfl, fun e => hgo ⟨hb, e⟩⟩
          · exact .inl rfl
        have HFIN := Lib.hid (HBAD.out HNO.out)
        clear hgo
        rcases hcs with rfl | ⟨rfl, hne⟩
        · go_wp2
          exact bodyPost_ret (v := .tuple #[repRZ, .int .i64 8]) (by simp [results, Tryz.results29, go_sem, cl, repRZ, repR, P.Sup.zero]) rfl HFIN.out
        · have q8 : ((fn : Int) != (M : Int)) = true := by simp; omega
          clear hne
          go_wp2
          exact bodyPost_ret (v := .tuple #[repRZ, .int .i64 8]) (by simp [results, Tryz.results29, go_sem, cl, repRZ, repR, P.Sup.zero]) rfl HFIN.out
      · obtain ⟨rfl, rfl⟩ := hgo
        have hqw6 : Q < w6.heap.size := lt_of_block HQ6'.out
        have q8 : ((fn : Int) != (fn : Int)) = false := by simp
        rw [HQ.out.2.2.2.1] at gq6
        have HCR := Lib.hid (show w6.heap.size ≥ C.B ∧ ∀ k, k < np → ∃ x : UInt8, w6.cell? ⟨C.g, k, none⟩ = some (bv x) ∧ (x.toNat = 0 ↔ st3.met k = 0) from ⟨HK6.out.ge, fun k hk => by
          obtain ⟨x, h1, -, h2, -⟩ := HK6.out.kindAt k (by rw [HQ.out.2.2.2.1]; exact hk)
          exact ⟨x, h1, h2⟩⟩)
        have HME := Lib.hid (show ∀ k, st3.met k ≠ 0 → 2 ≤ k ∧ k < np from fun k hk => by
          have h1 := HK6.out.2.2.2.2.2.1 k hk
          rw [HQ.out.2.2.2.1] at h1
          exact h1)
        go_wp2_with fail
        go_loop [10] (fun i => ∃ k : Nat, k ≤ 8 * fn ∧ i = .int .i64 k ∧ ∀ j, j < k → P.bitAt fout j = (decide (j < 2) || decide (0 < st3.met j))) (fun i => 8 * fn - (intOf i).toNat)
        case atStart => exact ⟨0, by omega, rfl, fun j hj => by omega⟩
        case round =>
          obtain ⟨k, hk, rfl, hall⟩ := hrel
          by_cases hlt : k < 8 * fn
          · have hkl : k / 8 < fout.length := by rw [← HFN.out]; omega
            obtain ⟨pa, hpa, hcell⟩ := HRF.out.at (k / 8) hkl
            subst hpa
            obtain ⟨x, hx⟩ : ∃ x, x = fout[k / 8] := ⟨_, rfl⟩
            rw [← hx] at hcell
            unfold bv at hcell
            obtain ⟨K8, hK8⟩ : ∃ K8, K8 = k / 8 := ⟨_, rfl⟩
            obtain ⟨R8, hR8⟩ : ∃ R8, R8 = k % 8 := ⟨_, rfl⟩
            have hd0 : (k : Int) < (fn : Int) * 8 := by omega
            have hd1 : (k : Int) / 8 = (K8 : Int) := by omega
            have hd2 : (k : Int) % 8 = (R8 : Int) := by omega
            have hd3 : (0 : Int) ≤ (K8 : Int) := by omega
            have hd4 : (K8 : Int) < (fn : Int) := by omega
            have hd5 : (R8 : Int) < 8 := by omega
            rw [← hK8] at hcell
            have hbit : (bits BinOp.and IntKind.u8 ((x.toNat : Int) / 2 ^ R8) 1 == 1) = P.bitAt fout k := by
              have hx8 := x.toNat_lt
              have e1 : ((x.toNat : Int) / 2 ^ R8) = ((x.toNat / 2 ^ R8 : Nat) : Int) := shr8 _ _ hx8
              have e2 := and8 (x.toNat / 2 ^ R8) 1 (Nat.lt_of_le_of_lt (Nat.div_le_self _ _) hx8) (by omega)
              rw [e1]
              have e3 : bits BinOp.and IntKind.u8 ((x.toNat / 2 ^ R8 : Nat) : Int) 1 = ((x.toNat / 2 ^ R8 % 2 : Nat) : Int) := by
                have h := e2
                rw [Nat.and_one_is_mod] at h
                exact h
              rw [e3]
              unfold P.bitAt
              have hgd : fout.getD (k / 8) 0 = x := by rw [hx]; simp [List.getD, hkl]
              rw [hgd, ← hR8]
              rcases Nat.mod_two_eq_zero_or_one (x.toNat / 2 ^ R8) with h | h <;> rw [h] <;> rfl
            obtain ⟨tb, htb⟩ : ∃ tb : Bool, tb = (decide (k < 2) || decide (0 < st3.met k)) := ⟨_, rfl⟩
            have HTB := Lib.hid htb
            have HNO := Lib.hid (fun (e : (P.bitAt fout k == tb) = false) => HBAD.out (by
              rw [HSG.out (by trivial), if_neg]
              unfold P.freeOk
              have : ((List.range (8 * fout.length)).all fun i => P.bitAt fout i == (decide (i < 2) || decide (0 < st3.met i))) = false := by
                rw [List.all_eq_false]
                exact ⟨k, by rw [List.mem_range]; rw [← HFN.out]; exact hlt, by rw [← HTB.out, e]; simp⟩
              rw [this, Bool.and_false]
              simp))
            have HYES := Lib.hid (fun (e : P.bitAt fout k = tb) => (fun j hj => by
              rcases Nat.lt_or_ge j k with h | h
              · exact hall j h
              · obtain rfl : j = k := by omega
                rw [e, HTB.out] : ∀ j, j < k + 1 → P.bitAt fout j = (decide (j < 2) || decide (0 < st3.met j))))
            clear hx hall hK8 hR8 hkl htb
            generalize P.bitAt fout k = bt at hbit HNO HYES
            have i0 : (0 : Int) ≤ (k : Int) := by omega
            by_cases c1 : k < 2
            · have d1 : decide ((k : Int) < 2) = true := decide_eq_true (by omega)
              obtain rfl : tb = true := by rw [HTB.out]; simp [c1]
              clear c1
              cases bt
              · have HY := Lib.hid (HNO.out rfl)
                go_wp2
                exact bodyPost_ret (v := .tuple #[repRZ, .int .i64 8]) (by simp [results, Tryz.results29, go_sem, cl, repRZ, repR, P.Sup.zero]) rfl HY.out
              · have HY := Lib.hid (HYES.out rfl)
                go_wp2
                go_round
                case rel => exact ⟨k + 1, by omega, by go_num, HY.out⟩
                case measure => simp [intOf]; omega
            · have d1 : decide ((k : Int) < 2) = false := decide_eq_false (by omega)
              by_cases c2 : k < np
              · have d2 : decide ((k : Int) < (np : Int)) = true := decide_eq_true (by omega)
                have d3 : (k : Int) < (np : Int) := by omega
                obtain ⟨y8, hy1, hy2⟩ := HCR.out.2 k c2
                unfold bv at hy1
                by_cases c3 : st3.met k = 0
                · have d4 : ((y8.toNat : Int) != 0) = false := by have := hy2.2 c3; simp; omega
                  obtain rfl : tb = false := by rw [HTB.out, c3]; simp; omega
                  clear c1 c2 c3 hy2
                  cases bt
                  · have HY := Lib.hid (HYES.out rfl)
                    go_wp2
                    go_round
                    case rel => exact ⟨k + 1, by omega, by go_num, HY.out⟩
                    case measure => simp [intOf]; omega
                  · have HY := Lib.hid (HNO.out rfl)
                    go_wp2
                    exact bodyPost_ret (v := .tuple #[repRZ, .int .i64 8]) (by simp [results, Tryz.results29, go_sem, cl, repRZ, repR, P.Sup.zero]) rfl HY.out
                · have d4 : ((y8.toNat : Int) != 0) = true := by have : ¬ y8.toNat = 0 := fun e => c3 (hy2.1 e); simp; omega
                  obtain rfl : tb = true := by rw [HTB.out]; simp; omega
                  clear c1 c2 c3 hy2
                  cases bt
                  · have HY := Lib.hid (HNO.out rfl)
                    go_wp2
                    exact bodyPost_ret (v := .tuple #[repRZ, .int .i64 8]) (by simp [results, Tryz.results29, go_sem, cl, repRZ, repR, P.Sup.zero]) rfl HY.out
                  · have HY := Lib.hid (HYES.out rfl)
                    go_wp2
                    go_round
                    case rel => exact ⟨k + 1, by omega, by go_num, HY.out⟩
                    case measure => simp [intOf]; omega
              · have d2 : decide ((k : Int) < (np : Int)) = false := decide_eq_false (by omega)
                have d3 : ¬ (k : Int) < (np : Int) := by omega
                obtain rfl : tb = false := by
                  rw [HTB.out]
                  have h0 : st3.met k = 0 := by
                    rcases Nat.eq_zero_or_pos (st3.met k) with h | h
                    · exact h
                    · exact absurd (HME.out k (by omega)).2 c2
                  rw [h0]
                  simp
                  omega
                clear c1 c2
                cases bt
                · have HY := Lib.hid (HYES.out rfl)
                  go_wp2
                  go_round
                  case rel => exact ⟨k + 1, by omega, by go_num, HY.out⟩
                  case measure => simp [intOf]; omega
                · have HY := Lib.hid (HNO.out rfl)
                  go_wp2
                  exact bodyPost_ret (v := .tuple #[repRZ, .int .i64 8]) (by simp [results, Tryz.results29, go_sem, cl, repRZ, repR, P.Sup.zero]) rfl HY.out
          · obtain rfl : k = 8 * fn := by omega
            have hok : P.freeOk np fout st3 = true := by
              unfold P.freeOk
              rw [decide_eq_true (by rw [← HFN.out, ← HMM.out]), Bool.true_and, List.all_eq_true]
              intro j hj
              rw [List.mem_range, ← HFN.out] at hj
              rw [hall j hj]
              simp
            have HSP := Lib.hid (show rwalk np img s = some (out, st3) by rw [HSG.out (by trivial), if_pos hok])
            have HQ6 := Lib.hid (show w6.heap[Q]? = some (.cells #[.slice C.a (256 * np) C.c, .slice (some ⟨C.g, 0, none⟩) np np, .int .i64 0, .int .i64 0, .int .i64 0, .int .i64 0, .int .i64 0, .int .i64 0, .int .i64 0, .int .i64 0, .int .i64 0, vP6, vT6, .slice va vn vc, .slice none 0 0, .int .i64 0, .bool false] 116 (0, 0)) from by
              rw [← HQC.out]
              exact HQ6'.out)
            have hd0 : ¬ (8 * (fn : Int)) < (fn : Int) * 8 := by omega
            clear hall hok gq6 fq6
            go_wp2_with fail
            go_loopw [12] (fun i wr => ∃ (k : Nat) (vG : Value), k ≤ np ∧ i = .int .i64 k ∧ OV wr w6.heap.size 3 1 vG (pgsTo st3 k).length (ivs (pgsTo st3 k)) ∧ wr.heap[Q]? = some (.cells #[.slice C.a (256 * np) C.c, .slice (some ⟨C.g, 0, none⟩) np np, .int .i64 0, .int .i64 0, .int .i64 0, .int .i64 0, .int .i64 0, .int .i64 0, .int .i64 0, .int .i64 0, .int .i64 0, vP6, vT6, .slice va vn vc, vG, .int .i64 0, .bool false] 116 (0, 0)) ∧ Chg (fun j => j = Q) w6 wr) (fun i _ => np - (intOf i).toNat)
            case atStart => exact ⟨0, _, by omega, rfl, OV.nil _ _ _ _, HQ6.out, Chg.refl _ _⟩
            case round =>
              obtain ⟨k, vG, hk, rfl, hov, hqr, hcr⟩ := hrel
              obtain ⟨aG, cG, rfl, -, -, hGb, -⟩ := OV.form hov
              have gq := cell_blk hqr
              have fq := free_blk hqr
              have HOV := Lib.hid hov
              have HQR := Lib.hid hqr
              have HCRR := Lib.hid hcr
              have hge : ∀ j, some j = (Value.slice aG (pgsTo st3 k).length cG).ownBlock → w6.heap.size ≤ j := fun j e => (World.ownsRow.lt hov j e.symm).1
              have HGE := Lib.hid hge
              have hps := pgsTo_succ st3 k
              have hpl := pgsTo_length st3 k
              have HPS := Lib.hid hps
              by_cases hlt : k < np
              · have i1 : (k : Int) < (np : Int) := by omega
                have i0 : (0 : Int) ≤ (k : Int) := by omega
                obtain ⟨y8, hy1, hy2⟩ := HCR.out.2 k hlt
                have hgQ : ¬ C.g = Q := by have := HQ.out.2.1; have := HQQ.out; omega
                have hgk : wr.cell? ⟨C.g, k, none⟩ = some (.int .u8 (y8.toNat : Int)) := (World.cell?_of_block (w := w6) (a := ⟨C.g, k, none⟩) (hcr.block _ (lt_of_cell hy1) hgQ)).trans hy1
                clear hov hqr hcr hge hps hGb hy1
                by_cases c3 : st3.met k = 0
                · have d4 : ((y8.toNat : Int) != 0) = false := by have := hy2.2 c3; simp; omega
                  have HEQ := Lib.hid (show pgsTo st3 (k + 1) = pgsTo st3 k by rw [HPS.out, if_neg (by omega)])
                  clear c3 hy2
                  go_wp2
                  exact ⟨⟨k + 1, _, by omega, by go_num, by rw [HEQ.out]; exact HOV.out, HQR.out, HCRR.out⟩, by simp [intOf]; omega⟩
                · have d4 : ((y8.toNat : Int) != 0) = true := by have : ¬ y8.toNat = 0 := fun e => c3 (hy2.1 e); simp; omega
                  have HEQ := Lib.hid (show pgsTo st3 (k + 1) = pgsTo st3 k ++ [(k : Int)] by rw [HPS.out, if_pos (by omega)])
                  have n14 : ∀ o : Obj, (wr.alloc o).cell? ⟨Q, 14, none⟩ = some (.slice aG (pgsTo st3 k).length cG) := fun o => cell_blk (alloc_old HQR.out o) 14
                  have HR1 := Lib.hid (show RV (wr.alloc (.cells #[.int .i64 (k : Int)] 3)) (some ⟨wr.heap.size, 0, none⟩) 1 1 [.int .i64 (k : Int)] from RV_lit wr 3 1 1 [.int .i64 (k : Int)] rfl (by unfold maxLen; omega))
                  have HZ := Lib.hid (fun o : Obj => (show w6.heap.size ≤ (wr.alloc o).heap.size by have := HCRR.out.size; simp; omega))
                  clear c3 hy2
                  obtain ⟨pl, hpl0⟩ : ∃ pl, pl = (pgsTo st3 k).length := ⟨_, rfl⟩
                  rw [← hpl0] at HOV HQR HGE n14 gq hpl
                  have HPL0 := Lib.hid hpl0
                  clear hpl0
                  go_wp2_with (at_builtin; refine wpList_appV intsT _ rfl _ _ rfl w6.heap.size _ _ _ rfl (HOV.out.alloc _) _ _ _ _ rfl HR1.out (fun u hu => by simp at hu; subst hu; rfl) ?c1 ?c2 (HZ.out _) ?_)
                  case c1 => omega
                  case c2 => omega
                  intro v5 w5 ho5 hg5 hat5
                  have hc5 : Chg (fun j => j = Q) w6 w5 := ((HCRR.out.trans (Chg.of_below ((Below.refl _ wr).alloc (Nat.le_refl _) _) _))).then (grown_chg hg5) (fun i hi e => by have := HGE.out i e; omega)
                  have hq5 := (grown_chg hg5).block Q (lt_of_block (alloc_old HQR.out _)) (fun e => by have := HGE.out Q e; omega)
                  rw [alloc_old HQR.out] at hq5
                  have gq5 := cell_blk hq5
                  have fq5 := free_blk hq5
                  obtain ⟨a5, e5, hv5, -⟩ := ho5.form
                  subst hv5
                  have hsc := setCell_chg w5 Q 14 (.slice a5 (pl + 1) e5)
                  have HFIN := Lib.hid (show OV (w5.setCell ⟨Q, 14, none⟩ (.slice a5 (pl + 1) e5)) w6.heap.size 3 1 (.slice a5 (pl + 1) e5) (pl + 1) (ivs (pgsTo st3 k) ++ [.int .i64 (k : Int)]) ∧ (w5.setCell ⟨Q, 14, none⟩ (.slice a5 (pl + 1) e5)).heap[Q]? = some (.cells #[.slice C.a (256 * np) C.c, .slice (some ⟨C.g, 0, none⟩) np np, .int .i64 0, .int .i64 0, .int .i64 0, .int .i64 0, .int .i64 0, .int .i64 0, .int .i64 0, .int .i64 0, .int .i64 0, vP6, vT6, .slice va vn vc, .slice a5 (pl + 1) e5, .int .i64 0, .bool false] 116 (0, 0)) ∧ Chg (fun j => j = Q) w6 (w5.setCell ⟨Q, 14, none⟩ (.slice a5 (pl + 1) e5)) from by
                    refine ⟨OVc.chg ho5 hsc (OV.far ho5 hqw6), ?_, hc5.trans hsc⟩
                    rw [blk_setCell hq5]
                    rfl)
                  clear ho5 hg5 hat5 hc5 hq5 hsc gq fq
                  go_wp2
                  exact ⟨⟨k + 1, _, by omega, by go_num, by rw [HEQ.out, List.length_append, ← HPL0.out]; simpa [ivs, iv] using HFIN.out.1, HFIN.out.2.1, HFIN.out.2.2⟩, by simp [intOf]; omega⟩
              · have hkn : np = k := by omega
                subst hkn
                have hQw : ¬ w.heap.size = Q := by have := HQQ.out; omega
                have hQw1 : ¬ w.heap.size + 1 = Q := by have := HQQ.out; omega
                have hQw2 : ¬ Q = w.heap.size := by have := HQQ.out; omega
                have hQw3 : ¬ Q = w.heap.size + 1 := by have := HQQ.out; omega
                have KSr := Lib.hid ((hcr.block _ (lt_of_block KS6.out) hQw).trans KS6.out)
                have KRr := Lib.hid ((hcr.block _ (lt_of_block KR6.out) hQw1).trans KR6.out)
                have gsr := cell_blk KSr.out
                obtain ⟨nG, hnG⟩ : ∃ nG, nG = (pgsTo st3 np).length := ⟨_, rfl⟩
                rw [← hnG] at HQR HOV gq
                have HNG := Lib.hid hnG
                obtain ⟨-, -, -, -, -, -, vP9, vT9, ks9, k91, -, -, k94, k95, -⟩ := HK6.out
                have hrr : rwC C vP9 vT9 (.slice va vn vc) false = rwC C vP6 vT6 (.slice va vn vc) false := by
                  have h1 := HQ6'.out
                  rw [HQ.out.1, ← HQQ.out, h1] at k91
                  injection k91 with k91
                  injection k91 with k91
                  exact k91.symm
                obtain ⟨rfl, rfl⟩ : vP9 = vP6 ∧ vT9 = vT6 := by
                  unfold rwC at hrr
                  simp only [Array.mk.injEq, List.cons.injEq] at hrr
                  exact ⟨hrr.2.2.2.2.2.2.2.2.2.2.2.1, hrr.2.2.2.2.2.2.2.2.2.2.2.2.1⟩
                obtain ⟨aP, cP, rfl, -⟩ := OV.form k94
                obtain ⟨aT, cT, rfl, -⟩ := OB.form k95
                obtain ⟨nP, hnP⟩ : ∃ n, n = st3.ps.length := ⟨_, rfl⟩
                obtain ⟨nT, hnT⟩ : ∃ n, n = st3.tx.length := ⟨_, rfl⟩
                rw [← hnP, ← hnT] at HQR gq
                rw [← hnP] at k94
                rw [← hnT] at k95
                have HPT := Lib.hid (show OV w6 C.B 59 4 (.slice aP nP cP) nP (qCs st3.ps) ∧ OB w6 C.B (.slice aT nT cT) st3.tx from ⟨k94, k95⟩)
                have HNPT := Lib.hid (show nP = st3.ps.length from hnP)
                clear hov hqr hcr hge hps hGb hnG k91 k94 k95 hrr hnP hnT gs6 gr6 fr6 cl
                go_upto_region 30 with (fail)
                have hkq := blkQ HQR.out (.int .i64 s.g) (.int .i64 (np : Int)) (.int .i64 s.r) (.int .i64 s.h) (.int .i64 s.b) (.int .i64 s.l) (.int .i64 s.s) (.int .i64 s.f) (.int .i64 (-1)) (.int .i64 s.h)
                have hcq := chgQ wr Q (.int .i64 s.g) (.int .i64 (np : Int)) (.int .i64 s.r) (.int .i64 s.h) (.int .i64 s.b) (.int .i64 s.l) (.int .i64 s.s) (.int .i64 s.f) (.int .i64 (-1)) (.int .i64 s.h)
                generalize hwq : World.setCell _ ⟨Q, 15, none⟩ _ = wq at hkq hcq ⊢
                have kRq := (hcq.block _ (lt_of_block KRr.out) hQw1).trans KRr.out
                have gq9 := cell_blk hkq
                have gr9 := cell_blk kRq
                have fr9 := free_blk kRq
                have hkf := blk14 kRq (.int .i64 s.g) (.int .i64 (np : Int)) (.int .i64 s.r) (.int .i64 s.h) (.int .i64 s.b) (.int .i64 s.l) (.int .i64 s.s) (.int .i64 s.f) (.int .i64 (-1)) (.slice aP nP cP) (.slice aT nT cT) (.slice va vn vc) (.slice aG nG cG) (.int .i64 s.h)
                have hcf := chg14 (Chg.refl (fun j => j = w.heap.size + 1) wq) (.inr rfl) (.int .i64 s.g) (.int .i64 (np : Int)) (.int .i64 s.r) (.int .i64 s.h) (.int .i64 s.b) (.int .i64 s.l) (.int .i64 s.s) (.int .i64 s.f) (.int .i64 (-1)) (.slice aP nP cP) (.slice aT nT cT) (.slice va vn vc) (.slice aG nG cG) (.int .i64 s.h)
                have cl9 := cell_blk hkf
                have hp := HP.out
                have HCF := Lib.hid hcf
                have HCQ := Lib.hid hcq
                clear hwq hkq hcq kRq hkf hcf gsr gq fq
                go_wp2
                refine bodyPost_ret (v := .tuple #[.agg (repR s (-1) (.slice aP nP cP) (.slice aT nT cT) (.slice va vn vc) (.slice aG nG cG) s.h), .int .i64 0]) (by simp [results, Tryz.results29, go_sem, cl9, repR, hp]) rfl ?_
                have hq6 : Chg (fun j => j = Q) w6 wq := HCRR.out.trans HCQ.out
                have hb6 : Below w.heap.size w w6 := HFB.out w6 HS6.out
                have hbq : Below w.heap.size w wq := below_chg hb6 hq6 hb6.size (fun i e => by have := HQQ.out; omega)
                have hB9 : C.B ≤ w6.heap.size := HCR.out.1
                have hwB : w.heap.size ≤ C.B := by have := HQ.out.2.2.1; omega
                have hcB : w.heap.size ≤ wc.heap.size := by have := HQQ.out; have := HL1.out; omega
                refine ⟨below_chg hbq HCF.out (by have := hbq.size; omega) (fun i e => by omega), .inr (.inr ⟨HC.out, out, st3, .slice aP nP cP, .slice aT nT cT, .slice va vn vc, .slice aG nG cG, HSP.out, rfl, ?_, ?_, ?_, ?_⟩)⟩
                · rw [← HNPT.out]
                  have h1 := HPT.out.1
                  refine (OVc.chg (OVc.chg h1 hq6 (fun k hk e => ?_)) HCF.out (fun k hk e => ?_)).mono hwB
                  · have := (World.ownsRow.lt h1 k hk).1; have := HQ.out.2.2.1; have := HQQ.out; omega
                  · have := (World.ownsRow.lt h1 k hk).1; have := HQ.out.2.2.1; have := HQQ.out; omega
                · have h1 := HPT.out.2
                  refine (OB.chg (OB.chg h1 hq6 (fun k hk e => ?_)) HCF.out (fun k hk e => ?_)).mono hwB
                  · have := (World.ownsRow.lt h1 k hk).1; have := HQ.out.2.2.1; have := HQQ.out; omega
                  · have := (World.ownsRow.lt h1 k hk).1; have := HQ.out.2.2.1; have := HQQ.out; omega
                · have h1 := HOUT.out
                  refine (OB.chg (OB.chg h1 hq6 (fun k hk e => ?_)) HCF.out (fun k hk e => ?_)).mono hcB
                  · have := LOB.out k hk; have := HQQ.out; omega
                  · have := LOB.out k hk; have := HQQ.out; omega
                · rw [← HNG.out]
                  have h1 := HOV.out
                  refine (OVc.chg (OVc.chg h1 HCQ.out (fun k hk e => ?_)) HCF.out (fun k hk e => ?_)).mono hb6.size
                  · have := (World.ownsRow.lt h1 k hk).1; omega
                  · have := (World.ownsRow.lt h1 k hk).1; have := HQQ.out; omega
/-- Walk, whatever superblock. -/
theorem rwalk_any (a : Option Addr) (n c np : Nat) (img : List UInt8) (s : P.Sup) (w : World) (hr : Rd w a n img) (hc : n ≤ c) (hn : n = 256 * np) (h8 : 8 ≤ np) (h4 : np ≤ 4096) :
    Calls Tryz.prog 29 #[.slice a n c, supV s] w (RWend np img s w) := by
  by_cases hchk : s.chk = 0
  · by_cases hp : s.p = (np : Int)
    · exact rwalk_main a n c np img s w hr hc hn h8 h4 hchk hp
    · exact rwalk_pages a n c np img s w hr hn h4 hchk hp
  · exact rwalk_arg a n c np img s w hr hchk
end Go.Proofs.YtnjpaanjgbfbaaaGreat
