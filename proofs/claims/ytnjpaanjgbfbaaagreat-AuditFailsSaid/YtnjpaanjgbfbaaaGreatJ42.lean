/- Chains: both superblocks read. Printed by gen_aus.py. -/
import Derived.Test.YtnjpaanjgbfbaaaGreatJ39
import Derived.Test.YtnjpaanjgbfbaaaGreatJ40
namespace Go.Proofs.YtnjpaanjgbfbaaaGreat
set_option linter.unusedVariables false
set_option linter.unusedSimpArgs false
open Go.RowKit

theorem OB.row {w : World} {B n c : Nat} {a : Option Addr} {l : List UInt8} (h : OB w B (.slice a n c) l) : Rd w a n l := by
  obtain ⟨a', c', e, hr, -⟩ := h.form
  injection e with e1 e2 e3
  rw [e1, e2]
  exact hr
set_option maxRecDepth 100000 in
set_option maxHeartbeats 6400000 in
theorem chains_two (d np : Nat) (img : List UInt8) (ops : Nat) (outs : List UInt8) (w : World) (h : Dev (OnlyD d) w d np img ops outs) (ho : ops ≤ 800000) (hl : lostO outs = false) (hl2 : lostO (outs.drop 1) = false) :
    Calls Tryz.prog 27 #[.pointer (some ⟨d, 0, none⟩)] w (ChnEnd d np img ops outs w) := by
  obtain ⟨w0, hw0⟩ : ∃ w0, w0 = (w.alloc (.cells (repC .zero 0 (.slice none 0 0) (.slice none 0 0) (.slice none 0 0) (.slice none 0 0)) 35)).alloc (.cells #[.slice none 0 0, .slice none 0 0] 100) := ⟨_, rfl⟩
  have hb0 : Below w.heap.size w w0 := by rw [hw0]; exact ((Below.refl _ w).alloc (Nat.le_refl _) _).alloc (by simp) _
  have k0 : w0.heap[w.heap.size]? = some (.cells (repC .zero 0 (.slice none 0 0) (.slice none 0 0) (.slice none 0 0) (.slice none 0 0)) 35 (0, 0)) := by rw [hw0]; exact alloc_old (alloc_new _ _ _ rfl) _
  have a0 : w0.heap[w.heap.size + 1]? = some (.cells #[.slice none 0 0, .slice none 0 0] 100 (0, 0)) := by rw [hw0]; exact alloc_new _ _ _ (by simp)
  have hd := h.lt
  have D0 := Lib.hid ((h.wide.sets (T := WD w d) (fun j _ e => e) (.inl rfl)).below hb0)
  have C0 := Lib.hid (Chg.of_below hb0 (WD w d))
  unfold repC P.Sup.zero at hw0 k0
  have K0 := Lib.hid k0
  have A0 := Lib.hid a0
  have h8 : 8 ≤ np := by obtain ⟨vl, gn, cn, vw, ao, no, co, -, -, -, -, -, -, -, -, -, a, b, -⟩ := h; omega
  have hpl0 := pg_length img np 0 h.page (by omega)
  have hpl1 := pg_length img np 1 h.page (by omega)
  have HR0 := Lib.hid (dread_ok _ d np ops img outs 0 w0 D0.out hl (by omega) (by omega))
  have HR := Lib.hid (fun w3 (hh : Dev (WD w d) w3 d np img (ops + 1) outs.tail) => dread_ok _ d np (ops + 1) img outs.tail 1 w3 hh (by rw [← List.drop_one]; exact hl2) (by omega) (by omega))
  have HL := Lib.hid hl
  have HL2 := Lib.hid hl2
  have HDL := Lib.hid hd
  have K00 := K0
  have A00 := A0
  have C00 := C0
  clear h hb0 k0 a0 hl hl2 hd K0 A0 C0
  go_enter Tryz.func27, Tryz.ntmps27
  go_wp2_with fail
  rw [← hw0]
  clear hw0
  refine wp_loop_rounds 3 ?_
  rw [rounds_succ]
  go_wp2_with fail
  refine HR0.out.mono ?_
  rintro e w1 ⟨v01, rfl, ho01, hd01, hc01⟩
  have C01 := Lib.hid (C00.out.trans (hc01.mono fun j _ e => .inl e))
  have K01 := Lib.hid ((hc01.block _ (lt_of_block K00.out) (by have := HDL.out; omega)).trans K00.out)
  have A01 := Lib.hid ((hc01.block _ (lt_of_block A00.out) (by have := HDL.out; omega)).trans A00.out)
  have D01 := Lib.hid hd01
  have Z01 := Lib.hid hc01.size
  obtain ⟨p01, q01, rfl, hr01, hm01, -, -⟩ := ho01.form
  rw [hpl0] at hr01 hm01 ⊢
  have HCL0 := Lib.hid (clone_any p01 _ q01 _ w1 hr01 (by omega))
  clear hd01 hc01 ho01 hr01
  go_wp2_with fail
  refine HCL0.out.mono ?_
  rintro e w2 ⟨v02, rfl, ho02, hb02⟩
  obtain ⟨p02, q02, rfl, hr02, hm02, -, -⟩ := ho02.form
  have a02 := (hb02.block _ (lt_of_block A01.out)).trans A01.out
  have g02 := cell_blk a02
  have f02 := free_blk a02
  have hc02 := (Chg.of_below hb02 (fun j => j = w.heap.size + 1)).setCell ⟨w.heap.size + 1, 0, none⟩ (.slice p02 (P.pg img 0).length q02) (.inr rfl)
  have hs02 := setCell_chg w2 (w.heap.size + 1) 0 (.slice p02 (P.pg img 0).length q02)
  have C10 := Lib.hid (C01.out.then hc02 (fun i hi e => by omega))
  have D10 := Lib.hid (D01.out.chg hc02 (fun j _ e => .inr (by omega)) (by have := HDL.out; omega))
  have K10 := Lib.hid ((hc02.block _ (lt_of_block K01.out) (by omega)).trans K01.out)
  have A10 := Lib.hid (blk_setCell a02 0 (.slice p02 (P.pg img 0).length q02))
  have N0 := Lib.hid (OB.chg ho02 hs02 (OB.far ho02 (by have := lt_of_block A01.out; omega)))
  have Z10 := Lib.hid hc02.size
  obtain ⟨w3, hw1⟩ : ∃ w3, w3 = w2.setCell ⟨w.heap.size + 1, 0, none⟩ (.slice p02 (P.pg img 0).length q02) := ⟨_, rfl⟩
  rw [← hw1] at C10 D10 K10 A10 N0 Z10
  rw [hpl0] at hw1 hm02 ⊢
  clear a02 hb02 hc02 hs02 ho02 hr02
  go_wp2
  rw [← hw1]
  clear hw1 g02 f02
  have HR1 := Lib.hid (HR.out w3 D10.out)
  have O10 := N0
  rw [rounds_succ]
  go_wp2_with fail
  refine HR1.out.mono ?_
  rintro e w4 ⟨v11, rfl, ho11, hd11, hc11⟩
  have C11 := Lib.hid (C10.out.trans (hc11.mono fun j _ e => .inl e))
  have K11 := Lib.hid ((hc11.block _ (lt_of_block K10.out) (by have := HDL.out; omega)).trans K10.out)
  have A11 := Lib.hid ((hc11.block _ (lt_of_block A10.out) (by have := HDL.out; omega)).trans A10.out)
  have D11 := Lib.hid hd11
  have O11 := Lib.hid (OB.chg O10.out hc11 (OB.far O10.out (by have := HDL.out; have := lt_of_block A01.out; omega)))
  have Z11 := Lib.hid hc11.size
  obtain ⟨p11, q11, rfl, hr11, hm11, -, -⟩ := ho11.form
  rw [hpl1] at hr11 hm11 ⊢
  have HCL1 := Lib.hid (clone_any p11 _ q11 _ w4 hr11 (by omega))
  clear hd11 hc11 ho11 hr11
  go_wp2_with fail
  refine HCL1.out.mono ?_
  rintro e w5 ⟨v12, rfl, ho12, hb12⟩
  obtain ⟨p12, q12, rfl, hr12, hm12, -, -⟩ := ho12.form
  have a12 := (hb12.block _ (lt_of_block A11.out)).trans A11.out
  have g12 := cell_blk a12
  have f12 := free_blk a12
  have hc12 := (Chg.of_below hb12 (fun j => j = w.heap.size + 1)).setCell ⟨w.heap.size + 1, 1, none⟩ (.slice p12 (P.pg img 1).length q12) (.inr rfl)
  have hs12 := setCell_chg w5 (w.heap.size + 1) 1 (.slice p12 (P.pg img 1).length q12)
  have C20 := Lib.hid (C11.out.then hc12 (fun i hi e => by omega))
  have D20 := Lib.hid (D11.out.chg hc12 (fun j _ e => .inr (by omega)) (by have := HDL.out; omega))
  have K20 := Lib.hid ((hc12.block _ (lt_of_block K11.out) (by omega)).trans K11.out)
  have A20 := Lib.hid (blk_setCell a12 1 (.slice p12 (P.pg img 1).length q12))
  have N1 := Lib.hid (OB.chg ho12 hs12 (OB.far ho12 (by have := lt_of_block A11.out; omega)))
  have O20 := Lib.hid (OB.chg O11.out hc12 (OB.far O11.out (by have := lt_of_block A01.out; omega)))
  have Z20 := Lib.hid hc12.size
  obtain ⟨w6, hw2⟩ : ∃ w6, w6 = w5.setCell ⟨w.heap.size + 1, 1, none⟩ (.slice p12 (P.pg img 1).length q12) := ⟨_, rfl⟩
  rw [← hw2] at C20 D20 K20 A20 N1 Z20 O20
  rw [hpl1] at hw2 hm12 ⊢
  clear a12 hb12 hc12 hs12 ho12 hr12
  go_wp2
  rw [← hw2]
  clear hw2 g12 f12
  rw [rounds_succ]
  have HCH := Lib.hid (choose_any p02 _ q02 _ p12 _ q12 _ w6 (by rw [← hpl0]; exact OB.row O20.out) hm02 (by rw [← hpl1]; exact OB.row N1.out) hm12)
  have ga := cell_blk A20.out
  go_wp2_with fail
  refine HCH.out.mono ?_
  rintro e w7 ⟨rfl, hb7⟩
  have D7 := Lib.hid (D20.out.below hb7)
  have C7 := Lib.hid (C20.out.trans (Chg.of_below hb7 _))
  have K7 := Lib.hid ((hb7.block _ (lt_of_block K20.out)).trans K20.out)
  have hE := P.cE_cases (P.pg img 0) (P.pg img 1)
  have hchk := fun hh => P.cE_chk (l := P.pg img 0) (k := P.pg img 1) hh
  have hop : opens np img = if P.cE (P.pg img 0) (P.pg img 1) = 0 then (walkSpec (specC np img (P.cS (P.pg img 0) (P.pg img 1)))).map fun x => (P.cS (P.pg img 0) (P.pg img 1), P.cI (P.pg img 0) (P.pg img 1), x.1, x.2) else none := rfl
  obtain ⟨s, hs⟩ : ∃ s, s = P.cS (P.pg img 0) (P.pg img 1) := ⟨_, rfl⟩
  obtain ⟨pl, hpl⟩ : ∃ s, s = P.cI (P.pg img 0) (P.pg img 1) := ⟨_, rfl⟩
  obtain ⟨E, hEE⟩ : ∃ s, s = P.cE (P.pg img 0) (P.pg img 1) := ⟨_, rfl⟩
  rw [← hs, ← hpl, ← hEE] at hop ⊢
  rw [← hs] at hchk
  rw [← hEE] at hE hchk
  have CL2 := Lib.hid (((CleanO.zero outs).step (by simpa using HL.out)).step HL2.out)
  clear hb7 hs hpl hEE ga
  unfold supV
  obtain ⟨w8, hw8⟩ : ∃ w8, w8 = w7.alloc (.cells #[.int .i64 s.g, .int .i64 s.p, .int .i64 s.r, .int .i64 s.h, .int .i64 s.b, .int .i64 s.l, .int .i64 s.s, .int .i64 s.f] 25) := ⟨_, rfl⟩
  have hb8 : Below w7.heap.size w7 w8 := by rw [hw8]; exact (Below.refl _ w7).alloc (Nat.le_refl _) _
  have D8 := Lib.hid (D7.out.below hb8)
  have C8 := Lib.hid (C7.out.trans (Chg.of_below hb8 _))
  have K8 := Lib.hid ((hb8.block _ (lt_of_block K7.out)).trans K7.out)
  have HOP := Lib.hid hop
  clear hb8 hop
  rcases hE with hE | hE
  rotate_left
  · subst hE
    rw [hw8] at K8 D8 C8
    clear hchk hw8
    have g := cell_blk K8.out
    have fz := free_blk K8.out
    have cl := cell_blk (blk13 K8.out (.int .i64 0) (.int .i64 0) (.int .i64 0) (.int .i64 0) (.int .i64 0) (.int .i64 0) (.int .i64 0) (.int .i64 0) (.int .i64 0) (.slice none 0 0) (.slice none 0 0) (.slice none 0 0) (.slice none 0 0))
    have HF := Lib.hid (chn_fin HDL.out D8.out (.inr (Nat.le_refl _)) C8.out)
    go_wp2
    refine bodyPost_ret (v := .tuple #[repZ, .slice none 0 0, .int .i64 8]) (by simp [results, Tryz.results27, go_sem, cl, repZ, repC, P.Sup.zero]) rfl ⟨HF.out.2, .inr (.inl ⟨by rw [HOP.out]; rfl, rfl, 2, by omega, ?_, CL2.out⟩)⟩
    have := HF.out.1
    rw [← List.drop_one, ← List.drop_one, List.drop_drop] at this
    exact this
  subst hE
  have hck := hchk rfl
  rw [if_pos rfl] at HOP
  have S8 := Lib.hid (alloc_new w7 (.cells #[.int .i64 s.g, .int .i64 s.p, .int .i64 s.r, .int .i64 s.h, .int .i64 s.b, .int .i64 s.l, .int .i64 s.s, .int .i64 s.f] 25) _ rfl)
  rw [← hw8] at S8
  have gs := cell_blk S8.out
  have D8' := Lib.hid (show Dev (WD w d) w8 d np img (ops + 2) (outs.drop 2) by
    have := D8.out
    rw [← List.drop_one, ← List.drop_one, List.drop_drop] at this
    exact this)
  have HFR := Lib.hid (fresh_any d np img s (ops + 2) (outs.drop 2) w8)
  unfold supV at HFR
  have HCK := Lib.hid hck
  clear hchk hck
  go_wp2_with fail
  rw [← hw8]
  clear hw8
  refine HFR.out.mono ?_
  rintro e w9 ⟨rfl, hf9⟩
  have HF9 := Lib.hid hf9
  have K9 := Lib.hid ((hf9.1.block _ (lt_of_block K8.out)).trans K8.out)
  have D9 := Lib.hid (D8'.out.below hf9.1)
  have C9 := Lib.hid (C8.out.trans (Chg.of_below hf9.1 _))
  have Z8 := Lib.hid (lt_of_block K8.out)
  clear hf9 gs
  by_cases hp : s.p = (np : Int)
  rotate_left
  · have HW := Lib.hid (walk_bad (freshC w8 d np img s (ops + 2) (outs.drop 2)) (WD w d) (ops + 2) (outs.drop 2) _ _ _ w9 D9.out HF9.out.2.2.1 hp)
    have HNO := Lib.hid (show opens np img = none by
      rw [HOP.out]
      have : walkSpec (specC np img s) = none := by unfold walkSpec; exact if_neg hp
      rw [this]; rfl)
    go_wp2_with fail
    refine HW.out.mono ?_
    rintro e w10 ⟨rfl, hd10, hb10⟩
    have D10' := Lib.hid hd10
    have C10' := Lib.hid (C9.out.trans (Chg.of_below hb10 _))
    have K10' := Lib.hid ((hb10.block _ (lt_of_block K9.out)).trans K9.out)
    clear hd10 hb10
    have g := cell_blk K10'.out
    have fz := free_blk K10'.out
    have cl := cell_blk (blk13 K10'.out (.int .i64 0) (.int .i64 0) (.int .i64 0) (.int .i64 0) (.int .i64 0) (.int .i64 0) (.int .i64 0) (.int .i64 0) (.int .i64 0) (.slice none 0 0) (.slice none 0 0) (.slice none 0 0) (.slice none 0 0))
    have HF := Lib.hid (chn_fin HDL.out D10'.out (.inr (Nat.le_refl _)) C10'.out)
    go_wp2
    refine bodyPost_ret (v := .tuple #[repZ, .slice none 0 0, .int .i64 8]) (by simp [results, Tryz.results27, go_sem, cl, repZ, repC, P.Sup.zero]) rfl ⟨HF.out.2, .inr (.inl ⟨HNO.out, rfl, 2, by omega, ?_, CL2.out⟩)⟩
    exact HF.out.1
  have HW := Lib.hid (walk_ok (freshC w8 d np img s (ops + 2) (outs.drop 2)) (freshS w8 d) w9 (fresh_wk D8'.out hp (by omega) HF9.out) HCK.out)
  have HFS := Lib.hid (fun w10 S' (hst : Stp (freshS w8 d) w9 S' w10) => (show Chg (WD w d) w w10 ∧ w10.heap[w.heap.size]? = w9.heap[w.heap.size]? from
    ⟨C9.out.trans (hst.1.mono fun i hi e => by
      have := Z8.out
      unfold freshS at e
      unfold WD
      omega), hst.1.block _ (lt_of_block K9.out) (by have := Z8.out; have := HDL.out; unfold freshS; omega)⟩))
  go_wp2_with fail
  refine HW.out.mono ?_
  rintro e w10 (⟨st', S', vS, vG, sl, hsp, rfl, hdn, hst⟩ | ⟨hsp, rfl, S', k, hk, hd10, hcl, hst⟩ | ⟨rfl, S', k, hk, hd10, hcl, hlo, hst⟩)
  rotate_left
  · have HNO := Lib.hid (show opens np img = none by
      rw [HOP.out, ← show walkSpec (freshC w8 d np img s (ops + 2) (outs.drop 2)) = walkSpec (specC np img s) from walkSpec_eq _, hsp]; rfl)
    have C10' := Lib.hid (HFS.out _ _ hst).1
    have K10' := Lib.hid ((HFS.out _ _ hst).2.trans K9.out)
    have D10' := Lib.hid (hd10.more K10'.out (by intro k x; rcases k with _|_|_|_|_|_|_|_|_|_|_|_|_|k <;> simp))
    have HCL' := Lib.hid hcl
    have HK' := Lib.hid hk
    clear hd10 hst hcl hsp hk
    have g := cell_blk K10'.out
    have fz := free_blk K10'.out
    have cl := cell_blk (blk13 K10'.out (.int .i64 0) (.int .i64 0) (.int .i64 0) (.int .i64 0) (.int .i64 0) (.int .i64 0) (.int .i64 0) (.int .i64 0) (.int .i64 0) (.slice none 0 0) (.slice none 0 0) (.slice none 0 0) (.slice none 0 0))
    have HF := Lib.hid (chn_fin HDL.out D10'.out (.inr rfl) C10'.out)
    go_wp2
    refine bodyPost_ret (v := .tuple #[repZ, .slice none 0 0, .int .i64 8]) (by simp [results, Tryz.results27, go_sem, cl, repZ, repC, P.Sup.zero]) rfl ⟨HF.out.2, .inr (.inl ⟨HNO.out, rfl, 2 + k, by have := HK'.out; simp only [freshC] at this; omega, ?_, CL2.out.app HCL'.out⟩)⟩
    have := HF.out.1
    simp only [freshC] at this
    rw [List.drop_drop, Nat.add_assoc] at this
    exact this
  · have C10' := Lib.hid (HFS.out _ _ hst).1
    have K10' := Lib.hid ((HFS.out _ _ hst).2.trans K9.out)
    have D10' := Lib.hid (hd10.more K10'.out (by intro k x; rcases k with _|_|_|_|_|_|_|_|_|_|_|_|_|k <;> simp))
    have HCL' := Lib.hid hcl
    have HK' := Lib.hid hk
    have HLO' := Lib.hid hlo
    clear hd10 hst hcl hk hlo
    have g := cell_blk K10'.out
    have fz := free_blk K10'.out
    have cl := cell_blk (blk13 K10'.out (.int .i64 0) (.int .i64 0) (.int .i64 0) (.int .i64 0) (.int .i64 0) (.int .i64 0) (.int .i64 0) (.int .i64 0) (.int .i64 0) (.slice none 0 0) (.slice none 0 0) (.slice none 0 0) (.slice none 0 0))
    have HF := Lib.hid (chn_fin HDL.out D10'.out (.inr rfl) C10'.out)
    go_wp2
    refine bodyPost_ret (v := .tuple #[repZ, .slice none 0 0, .int .i64 7]) (by simp [results, Tryz.results27, go_sem, cl, repZ, repC, P.Sup.zero]) rfl ⟨HF.out.2, .inr (.inr ⟨rfl, 2 + k, by have := HK'.out; simp only [freshC] at this; omega, ?_, CL2.out.app HCL'.out, ?_⟩)⟩
    · have := HF.out.1
      simp only [freshC] at this
      rw [List.drop_drop, Nat.add_assoc, Nat.add_assoc] at this
      exact this
    · have := HLO'.out
      simp only [freshC] at this
      rw [List.drop_drop] at this
      exact this
  have HSP := Lib.hid (show opens np img = some (s, pl, sl, st') by
    rw [HOP.out, ← show walkSpec (freshC w8 d np img s (ops + 2) (outs.drop 2)) = walkSpec (specC np img s) from walkSpec_eq _, hsp]; rfl)
  have C10 := Lib.hid (HFS.out _ _ hst).1
  have K10 := Lib.hid ((HFS.out _ _ hst).2.trans K9.out)
  have hne : ¬ w.heap.size = w8.heap.size + 3 := by have := Z8.out; omega
  have dn11 := hdn.place pl
  have hsc := setCell_chg w10 (w8.heap.size + 3) 17 (.int .i64 pl)
  have C11 := Lib.hid (C10.out.then hsc (fun i hi e => .inr (by have := Z8.out; omega)))
  have K11 := Lib.hid ((hsc.block _ (lt_of_block K10.out) hne).trans K10.out)
  obtain ⟨-, -, -, -, -, -, -, -, -, vP0, vT0, nm0, hq10, -, -, -⟩ := hdn
  have q0 := cell_blk hq10
  have f0 := free_blk hq10
  have q1 := cell_blk (blk_setCell hq10 17 (.int .i64 pl))
  unfold wkG at q0 q1
  simp only [freshC] at q0 f0 q1 dn11
  clear hsp hst hq10 hsc
  go_upto_region 20 with (fail)
  obtain ⟨w11, hw11⟩ : ∃ w11, w11 = w10.setCell ⟨w8.heap.size + 3, 17, none⟩ (.int .i64 pl) := ⟨_, rfl⟩
  rw [← hw11] at C11 K11 q1 dn11 ⊢
  clear hw11 q0 f0
  have DN := Lib.hid dn11
  have hlook := fun (n : Nat) (hn : n < 1000000) (wr : World) (hb : Below w11.heap.size w11 wr) => (dn11.below hb).metAt n hn
  have HLOOK := Lib.hid hlook
  obtain ⟨hd11, hcl11, -, -, -, -, hS11, -, hG11, vP, vT, nm, hq11, hP11, hT11, -⟩ := dn11
  obtain ⟨L, hL⟩ : ∃ L, L = pgsTo st' np := ⟨_, rfl⟩
  have hLr : ∀ x ∈ L, ∃ n : Nat, x = (n : Int) ∧ n < np := fun x hx => by
    rw [hL] at hx
    unfold pgsTo at hx
    simp only [List.mem_map, List.mem_filter, List.mem_range] at hx
    obtain ⟨n, ⟨hn, -⟩, rfl⟩ := hx
    exact ⟨n, rfl, hn⟩
  have HLR := Lib.hid hLr
  have q2 := cell_blk hq11
  unfold wkG at q2
  simp only [freshC] at q2 hd11 hcl11 hS11 hP11 hT11 hG11
  rw [← hL] at hG11
  obtain ⟨N, hN⟩ : ∃ N, N = L.length := ⟨_, rfl⟩
  rw [← hN] at hG11
  obtain ⟨aG, cG, rfl, hrG, hcG, -, -⟩ := OV.form hG11
  obtain ⟨aP, cP, rfl, -⟩ := OV.form hP11
  obtain ⟨aT, cT, rfl, -⟩ := OB.form hT11
  obtain ⟨aS, cS, rfl, -⟩ := OB.form hS11
  obtain ⟨nP, hnP⟩ : ∃ n, n = st'.ps.length := ⟨_, rfl⟩
  obtain ⟨nT, hnT⟩ : ∃ n, n = st'.tx.length := ⟨_, rfl⟩
  obtain ⟨nS, hnS⟩ : ∃ n, n = sl.length := ⟨_, rfl⟩
  rw [← hnP] at hP11 q2 hq11
  rw [← hnT] at hT11 q2 hq11
  rw [← hnS] at hS11 q2 hq11 DN
  have HNP := Lib.hid hnP
  have HRG := Lib.hid hrG
  have HFIN := Lib.hid (show Dev S' w11 d np img (ops + 2 + P.cnt np st') ((outs.drop 2).drop (P.cnt np st')) ∧ CleanO (outs.drop 2) (P.cnt np st') ∧ OV w11 w8.heap.size 59 4 (.slice aP nP cP) nP (qCs st'.ps) ∧ OB w11 w8.heap.size (.slice aT nT cT) st'.tx ∧ OB w11 w8.heap.size (.slice aS nS cS) sl ∧ OV w11 w8.heap.size 3 1 (.slice aG N cG) N (ivs L) from ⟨hd11, hcl11, hP11, hT11, hS11, hG11⟩)
  have HHL := Lib.hid (show L = pgsTo st' np ∧ N = L.length ∧ N ≤ np from ⟨hL, hN, by rw [hN, hL]; exact pgsTo_length _ _⟩)
  have HQ11 := Lib.hid hq11
  obtain ⟨F, hF⟩ : ∃ F : Int → Bool, F = fun i => decide (st'.met i.toNat = 5) := ⟨_, rfl⟩
  have HFF := Lib.hid hF
  have H84 := Lib.hid (show np ≤ 4096 from DN.out.2.2.1.2.2.1)
  clear hnP hnT hnS hd11 hcl11 hS11 hG11 hP11 hT11 hq11 hL hLr hN hrG hlook hF q1
  go_wp2_with fail
  have hNb : N ≤ 4096 := Nat.le_trans HHL.out.2.2 H84.out
  go_loopw [14, 70] (fun l i wr => ∃ k : Nat, k ≤ N ∧ i = .int .i64 k ∧ OV wr w11.heap.size 3 1 l ((L.take k).filter F).length (ivs ((L.take k).filter F)) ∧ Below w11.heap.size w11 wr) (fun _ i _ => N - (intOf i).toNat)
  case atStart => exact ⟨0, by omega, rfl, OV.nil _ _ _ _, Below.refl _ _⟩
  case round =>
    obtain ⟨k, hkk, rfl, hov, hbr⟩ := hrel
    obtain ⟨av, cv, rfl, -, -, -, -⟩ := OV.form hov
    have hNl := HHL.out.2.1
    have hq3 := (hbr.block _ (lt_of_block HQ11.out)).trans HQ11.out
    have g3 := cell_blk hq3
    unfold wkG at g3
    simp only [freshC] at g3
    have HBR := Lib.hid hbr
    have HOV := Lib.hid hov
    by_cases hlt : k < N
    · have hkl : k < L.length := by omega
      obtain ⟨pa, hpa, hcell⟩ := (HRG.out.below hbr).at k (by rw [ivs_length]; exact hkl)
      obtain ⟨n, hn, hnp⟩ := HLR.out L[k] (List.getElem_mem hkl)
      have hce : wr.cell? (pa.add k) = some (.int .i64 (n : Int)) := by
        rw [hcell]
        simp [ivs, iv, hn]
      subst hpa
      have hla := HLOOK.out n (by have := H84.out; omega) wr hbr
      have htk : L.take (k + 1) = L.take k ++ [(n : Int)] := by rw [List.take_succ_eq_append_getElem hkl, hn]
      have HFE := Lib.hid (show F (n : Int) = decide (st'.met n = 5) by rw [HFF.out]; simp)
      have HTK := Lib.hid htk
      have i1 : (k : Int) < (N : Int) := by omega
      obtain ⟨mt, hmt⟩ : ∃ mt, mt = st'.met n := ⟨_, rfl⟩
      rw [← hmt] at hla HFE
      clear hov hbr hq3 hcell hn htk hNl hmt
      by_cases hm : mt = 5
      · have HLEN := Lib.hid (show ((L.take k).filter F).length ≤ k from Nat.le_trans (List.length_filter_le _ _) (by simp; omega))
        have d2 : ((mt : Int) == 5) = true := by simp; omega
        have HFT := Lib.hid (show (L.take (k + 1)).filter F = (L.take k).filter F ++ [(n : Int)] by
          rw [HTK.out, List.filter_append]
          have : F (n : Int) = true := by rw [HFE.out]; exact decide_eq_true hm
          simp [this])
        have HB := Lib.hid (fun o : Obj => ((HBR.out.trans (((Below.refl _ wr).alloc (Nat.le_refl _) o).mono HBR.out.size)) : Below w11.heap.size w11 (wr.alloc o)))
        have HZ := Lib.hid (fun o : Obj => (show w11.heap.size ≤ (wr.alloc o).heap.size by have := HBR.out.size; simp; omega))
        have HR1 := Lib.hid (show RV (wr.alloc (.cells #[.int .i64 (n : Int)] 3)) (some ⟨wr.heap.size, 0, none⟩) 1 1 [.int .i64 (n : Int)] from RV_lit wr 3 1 1 [.int .i64 (n : Int)] rfl (by unfold maxLen; omega))
        clear hm
        go_wp2_with (at_builtin; refine wpList_appV intsT _ rfl _ _ rfl w11.heap.size _ _ _ rfl (HOV.out.alloc _) _ _ _ _ rfl HR1.out (fun u hu => by simp at hu; subst hu; rfl) ?c1 ?c2 (HZ.out _) ?_)
        case c1 => have := HLEN.out; have := H84.out; omega
        case c2 => have := HLEN.out; omega
        intro v5 w5 ho5 hg5 hat5
        have hb5 := OV.grown (HOV.out.alloc _) (HB.out _) (HZ.out _) hg5
        obtain ⟨a5, e5, hv5, -⟩ := ho5.form
        subst hv5
        have HO5 := Lib.hid ho5
        have HB5 := Lib.hid hb5
        clear ho5 hg5 hat5 hb5 g3
        go_wp2
        exact ⟨⟨k + 1, by omega, by go_num, by rw [HFT.out]; simpa [ivs, iv] using HO5.out, HB5.out⟩, by simp [intOf]; omega⟩
      · have d2 : ((mt : Int) == 5) = false := by simp; omega
        have HFT := Lib.hid (show (L.take (k + 1)).filter F = (L.take k).filter F by
          rw [HTK.out, List.filter_append]
          have : F (n : Int) = false := by rw [HFE.out]; exact decide_eq_false hm
          simp [this])
        clear hm
        go_wp2
        exact ⟨⟨k + 1, by omega, by go_num, by rw [HFT.out]; exact HOV.out, HBR.out⟩, by simp [intOf]; omega⟩
    · obtain rfl : k = N := by omega
      clear hNb hlt hkk
      have KR := (hbr.block _ (lt_of_block K11.out)).trans K11.out
      have kb := cell_blk KR
      have kf := free_blk KR
      have cl := cell_blk (blk13 KR (.int .i64 s.g) (.int .i64 (np : Int)) (.int .i64 s.r) (.int .i64 s.h) (.int .i64 s.b) (.int .i64 s.l) (.int .i64 s.s) (.int .i64 s.f) (.int .i64 pl) (.slice aP nP cP) (.slice aT nT cT) (.slice aS nS cS) (.slice aG k cG))
      have hsc := chg13 (Chg.refl (fun j => j = w.heap.size) wr) (.inr rfl) (.int .i64 s.g) (.int .i64 (np : Int)) (.int .i64 s.r) (.int .i64 s.h) (.int .i64 s.b) (.int .i64 s.l) (.int .i64 s.s) (.int .i64 s.f) (.int .i64 pl) (.slice aP nP cP) (.slice aT nT cT) (.slice aS nS cS) (.slice aG k cG)
      have HSC := Lib.hid hsc
      have HTN := Lib.hid (show (L.take k).filter F = blobsTo st' np by
        rw [HHL.out.2.1, List.take_length, HHL.out.1, HFF.out]; rfl)
      have HKR := Lib.hid KR
      clear hov hbr KR hsc hNl hq3
      go_wp2
      try simp only [Exit.inBlock, Exit.then]
      refine bodyPost_ret (v := .tuple #[.agg (repC s pl (.slice aP nP cP) (.slice aT nT cT) (.slice aS nS cS) (.slice aG k cG)), .slice av ((L.take k).filter F).length cv, .int .i64 0]) (by simp [results, Tryz.results27, go_sem, cl, repC, hp]) rfl ?_
      obtain ⟨f1, f2, f3, f4, f5, f6⟩ := HFIN.out
      have hZ0 : w.heap.size ≤ w8.heap.size := Nat.le_of_lt Z8.out
      have hZ11 : w8.heap.size ≤ w11.heap.size := by have := lt_of_block HQ11.out; (try simp only [freshC] at this); omega
      have hc := HSC.out
      refine ⟨(C11.out.trans (Chg.of_below HBR.out _)).then hc (fun i hi e => by omega) |>.mono (fun i hi e => e.elim id (fun e => by omega)), .inl ⟨s, pl, sl, st', .slice aP nP cP, .slice aT nT cT, .slice aS nS cS, .slice aG k cG, .slice av ((L.take k).filter F).length cv, HSP.out, rfl, ⟨?_, ?_, ?_, ?_⟩, ?_, ?_, CL2.out.app f2⟩⟩
      · rw [← HNP.out]
        exact (OVc.chg (f3.below HBR.out) hc (OV.far f3 Z8.out)).mono hZ0
      · exact (OB.chg (f4.below HBR.out) hc (OB.far f4 Z8.out)).mono hZ0
      · exact (OB.chg (f5.below HBR.out) hc (OB.far f5 Z8.out)).mono hZ0
      · rw [← HHL.out.1, ← HHL.out.2.1]
        exact (OVc.chg (f6.below HBR.out) hc (OV.far f6 Z8.out)).mono hZ0
      · rw [← HTN.out]
        exact (OVc.chg HOV.out hc (OV.far HOV.out (Nat.lt_of_lt_of_le Z8.out hZ11))).mono (Nat.le_trans hZ0 hZ11)
      · have hd := ((f1.below HBR.out).more HKR.out (by intro k x; rcases k with _|_|_|_|_|_|_|_|_|_|_|_|_|k <;> simp))
        have := (hd.chg hc (fun j _ e => .inr e) (by have := HDL.out; omega)).sets (T := OnlyD d) (fun j _ e => e ▸ hd.mem) rfl
        rw [List.drop_drop, Nat.add_assoc] at this
        exact this
end Go.Proofs.YtnjpaanjgbfbaaaGreat
/- Chains, whole; Open. Printed by gen_aut.py. -/
namespace Go.Proofs.YtnjpaanjgbfbaaaGreat
set_option linter.unusedVariables false
set_option linter.unusedSimpArgs false
open Go.RowKit

theorem chains_any (d np : Nat) (img : List UInt8) (ops : Nat) (outs : List UInt8) (w : World) (h : Dev (OnlyD d) w d np img ops outs) (ho : ops ≤ 800000) :
    Calls Tryz.prog 27 #[.pointer (some ⟨d, 0, none⟩)] w (ChnEnd d np img ops outs w) := by
  cases h1 : lostO outs
  · cases h2 : lostO (outs.drop 1)
    · exact chains_two d np img ops outs w h ho h1 h2
    · exact chains_io1 d np img ops outs w h ho h1 h2
  · exact chains_io0 d np img ops outs w h ho h1
/-- What Open tells of what Chains tells. -/
def tell : Ending → Ending
  | .returned (.tuple #[a, _, x]) => .returned (.tuple #[a, x])
  | e => e
set_option maxRecDepth 100000 in
set_option maxHeartbeats 1600000 in
theorem aopen_calls (p : Option Addr) (w : World) (R : World → Ending → World → Prop) (hc : ∀ w0, Below w.heap.size w w0 → w.heap.size < w0.heap.size → Calls Tryz.prog 27 #[.pointer p] w0 (R w0))
    (hR : ∀ w0 e w', Below w.heap.size w w0 → w.heap.size < w0.heap.size → R w0 e w' → ∃ n0 n1 n2 n3 n4 n5 n6 n7 n8 a9 m9 c9 a10 m10 c10 a11 m11 c11 a12 m12 c12 vL x, e = .returned (.tuple #[.agg #[.int .i64 n0, .int .i64 n1, .int .i64 n2, .int .i64 n3, .int .i64 n4, .int .i64 n5, .int .i64 n6, .int .i64 n7, .int .i64 n8, .slice a9 m9 c9, .slice a10 m10 c10, .slice a11 m11 c11, .slice a12 m12 c12], vL, .int .i64 x]) ∧ w'.heap[w.heap.size]? = w0.heap[w.heap.size]?) :
    Calls Tryz.prog 10 #[.pointer p] w fun e w' => ∃ w0 w1 e1, Below w.heap.size w w0 ∧ w.heap.size < w0.heap.size ∧ R w0 e1 w1 ∧ e = tell e1 ∧ Chg (fun j => j = w.heap.size) w1 w' ∧ w1.heap[w.heap.size]? = some (.cells #[.int .i64 0, .int .i64 0, .int .i64 0, .int .i64 0, .int .i64 0, .int .i64 0, .int .i64 0, .int .i64 0, .int .i64 0, .slice none 0 0, .slice none 0 0, .slice none 0 0, .slice none 0 0] 35 (0, 0)) := by
  obtain ⟨w0, hw0⟩ : ∃ w0, w0 = w.alloc (.cells #[.int .i64 0, .int .i64 0, .int .i64 0, .int .i64 0, .int .i64 0, .int .i64 0, .int .i64 0, .int .i64 0, .int .i64 0, .slice none 0 0, .slice none 0 0, .slice none 0 0, .slice none 0 0] 35) := ⟨_, rfl⟩
  have hb0 : Below w.heap.size w w0 := by rw [hw0]; exact (Below.refl _ w).alloc (Nat.le_refl _) _
  have k0 : w0.heap[w.heap.size]? = some (.cells #[.int .i64 0, .int .i64 0, .int .i64 0, .int .i64 0, .int .i64 0, .int .i64 0, .int .i64 0, .int .i64 0, .int .i64 0, .slice none 0 0, .slice none 0 0, .slice none 0 0, .slice none 0 0] 35 (0, 0)) := by rw [hw0]; exact alloc_new _ _ _ rfl
  have HC := Lib.hid (hc w0 hb0 (lt_of_block k0))
  have HR := Lib.hid (fun e w' => hR w0 e w' hb0 (lt_of_block k0))
  have HB0 := Lib.hid hb0
  have K0 := Lib.hid k0
  clear hc hR hb0 k0
  go_enter Tryz.func10, Tryz.ntmps10
  go_wp2_with fail
  rw [← hw0]
  clear hw0
  refine HC.out.mono ?_
  intro e w1 hr
  obtain ⟨n0, n1, n2, n3, n4, n5, n6, n7, n8, a9, m9, c9, a10, m10, c10, a11, m11, c11, a12, m12, c12, vL, x, rfl, hk⟩ := HR.out _ _ hr
  have k1 := hk.trans K0.out
  have HR1 := Lib.hid hr
  have l1 := lt_of_block k1
  have ca := cell_blk k1
  have fa := free_blk k1
  have hne : ¬ w.heap.size = w1.heap.size := by omega
  have hne2 : ¬ w1.heap.size = w.heap.size := by omega
  have HFIN := Lib.hid (fun o : Obj => (show Chg (fun j => j = w.heap.size) w1 _ from (chg13 (Chg.refl (fun j => j = w.heap.size) w1) (.inr rfl) (.int .i64 n0) (.int .i64 n1) (.int .i64 n2) (.int .i64 n3) (.int .i64 n4) (.int .i64 n5) (.int .i64 n6) (.int .i64 n7) (.int .i64 n8) (.slice a9 m9 c9) (.slice a10 m10 c10) (.slice a11 m11 c11) (.slice a12 m12 c12)).alloc o))
  have HCL := Lib.hid (fun o : Obj => cell_blk (alloc_old (blk13 k1 (.int .i64 n0) (.int .i64 n1) (.int .i64 n2) (.int .i64 n3) (.int .i64 n4) (.int .i64 n5) (.int .i64 n6) (.int .i64 n7) (.int .i64 n8) (.slice a9 m9 c9) (.slice a10 m10 c10) (.slice a11 m11 c11) (.slice a12 m12 c12)) o))
  have K1 := Lib.hid k1
  clear hr hk k1
  go_wp2
  have cl := HCL.out
  refine bodyPost_ret (v := .tuple #[.agg #[.int .i64 n0, .int .i64 n1, .int .i64 n2, .int .i64 n3, .int .i64 n4, .int .i64 n5, .int .i64 n6, .int .i64 n7, .int .i64 n8, .slice a9 m9 c9, .slice a10 m10 c10, .slice a11 m11 c11, .slice a12 m12 c12], .int .i64 x]) (by simp [results, Tryz.results10, go_sem, cl]) rfl ⟨w0, w1, _, HB0.out, lt_of_block K0.out, HR1.out, rfl, HFIN.out _, K1.out⟩
/-- How Open ends. -/
def OpnEnd (d np : Nat) (img : List UInt8) (ops : Nat) (outs : List UInt8) (w : World) (e : Ending) (w' : World) : Prop :=
  Chg (OnlyD d) w w' ∧
  ((∃ s pl sl st vP vT vS vG, opens np img = some (s, pl, sl, st) ∧ e = .returned (.tuple #[.agg (repC s pl vP vT vS vG), .int .i64 0]) ∧ RepIs w' w.heap.size np st sl vP vT vS vG ∧
      Dev (OnlyD d) w' d np img (ops + (2 + P.cnt np st)) (outs.drop (2 + P.cnt np st)) ∧ CleanO outs (2 + P.cnt np st)) ∨
   (opens np img = none ∧ e = .returned (.tuple #[repZ, .int .i64 8]) ∧ ∃ k, k ≤ np + 2 ∧ Dev (OnlyD d) w' d np img (ops + k) (outs.drop k) ∧ CleanO outs k) ∨
   (e = .returned (.tuple #[repZ, .int .i64 7]) ∧ ∃ k, k < np + 2 ∧ Dev (OnlyD d) w' d np img (ops + k + 1) (outs.drop (k + 1)) ∧ CleanO outs k ∧ lostO (outs.drop k) = true))
theorem aopen_any (d np : Nat) (img : List UInt8) (ops : Nat) (outs : List UInt8) (w : World) (h : Dev (OnlyD d) w d np img ops outs) (ho : ops ≤ 800000) :
    Calls Tryz.prog 10 #[.pointer (some ⟨d, 0, none⟩)] w (OpnEnd d np img ops outs w) := by
  have hd := h.lt
  refine (aopen_calls (some ⟨d, 0, none⟩) w (fun w0 => ChnEnd d np img ops outs w0) (fun w0 hb hl => chains_any d np img ops outs w0 (h.below hb) ho) ?_).mono ?_
  · intro w0 e w' hb hl hr
    have hk : w'.heap[w.heap.size]? = w0.heap[w.heap.size]? := hr.1.block _ hl (by unfold OnlyD; omega)
    rcases hr.2 with ⟨s, pl, sl, st, vP, vT, vS, vG, vL, -, rfl, ⟨r1, r2, r3, r4⟩, -⟩ | ⟨-, rfl, -⟩ | ⟨rfl, -⟩
    · obtain ⟨aP, cP, rfl, -⟩ := OV.form r1
      obtain ⟨aT, cT, rfl, -⟩ := OB.form r2
      obtain ⟨aS, cS, rfl, -⟩ := OB.form r3
      obtain ⟨aG, cG, rfl, -⟩ := OV.form r4
      exact ⟨_, _, _, _, _, _, _, _, _, _, _, _, _, _, _, _, _, _, _, _, _, _, _, rfl, hk⟩
    · exact ⟨_, _, _, _, _, _, _, _, _, _, _, _, _, _, _, _, _, _, _, _, _, _, _, rfl, hk⟩
    · exact ⟨_, _, _, _, _, _, _, _, _, _, _, _, _, _, _, _, _, _, _, _, _, _, _, rfl, hk⟩
  · rintro e w' ⟨w0, w1, e1, hb, hl, hr, rfl, hc, hk1⟩
    have hne : ¬ d = w.heap.size := by omega
    have hcc : Chg (OnlyD d) w w' := ((Chg.of_below hb (OnlyD d)).trans hr.1).then hc (fun i hi e => by omega)
    have hD : ∀ {o : Nat} {l : List UInt8}, Dev (OnlyD d) w1 d np img o l → Dev (OnlyD d) w' d np img o l := fun hD =>
      ((hD.more hk1 (by intro k x; rcases k with _|_|_|_|_|_|_|_|_|_|_|_|_|k <;> simp)).chg hc (fun j _ e => .inr e) hne).sets (fun j _ e => .inl e) rfl
    have hw : w.heap.size ≤ w0.heap.size := Nat.le_of_lt hl
    refine ⟨hcc, ?_⟩
    rcases hr.2 with ⟨s, pl, sl, st, vP, vT, vS, vG, vL, ho, rfl, ⟨r1, r2, r3, r4⟩, rL, rD, rC⟩ | ⟨ho, rfl, k, hk, rD, rC⟩ | ⟨rfl, k, hk, rD, rC, rl⟩
    · exact .inl ⟨s, pl, sl, st, vP, vT, vS, vG, ho, rfl, ⟨(OVc.chg r1 hc (OV.far r1 hl)).mono hw, (OB.chg r2 hc (OB.far r2 hl)).mono hw, (OB.chg r3 hc (OB.far r3 hl)).mono hw, (OVc.chg r4 hc (OV.far r4 hl)).mono hw⟩, hD rD, rC⟩
    · exact .inr (.inl ⟨ho, rfl, k, hk, hD rD, rC⟩)
    · exact .inr (.inr ⟨rfl, k, hk, hD rD, rC, rl⟩)
end Go.Proofs.YtnjpaanjgbfbaaaGreat
/- The reference's walk and the program's come to the same. Plain law. -/
namespace Go.Proofs.YtnjpaanjgbfbaaaGreat
set_option linter.unusedVariables false
set_option linter.unusedSimpArgs false

theorem piece_len {img : List UInt8} {np : Nat} {lim : Bool} {st s : P.St} {p : P.Q} (h : P.piece img np lim st p = some s) : s.tx.length = st.tx.length + p.c.toNat := by
  obtain ⟨h1, -, h3⟩ := P.piece_tx h
  rw [h1, List.length_append, h3]
theorem smOf_cons (x : P.Q) (l : List P.Q) : (P.smOf (x :: l)).b = x.c + (P.smOf l).b := by
  have h : ∀ (l : List P.Q) (a : P.Sm), (l.foldl (fun s p => s.add ⟨1, p.c, p.d⟩) a).b = a.b + (P.smOf l).b := by
    intro l
    induction l with
    | nil => intro a; simp [P.smOf]
    | cons y l ih =>
      intro a
      simp only [List.foldl_cons]
      rw [ih]
      have h2 : (P.smOf (y :: l)).b = (P.smOf l).b + y.c := by
        unfold P.smOf
        simp only [List.foldl_cons]
        rw [ih]
        simp only [P.Sm.add]
        show 0 + y.c + (P.smOf l).b = (P.smOf l).b + y.c
        omega
      rw [h2]
      simp only [P.Sm.add]
      omega
  have h2 := h l (P.Sm.add ⟨0, 0, 0⟩ ⟨1, x.c, x.d⟩)
  unfold P.smOf
  simp only [List.foldl_cons]
  rw [h2]
  simp only [P.Sm.add]
  show 0 + x.c + (P.smOf l).b = x.c + (P.smOf l).b
  omega
theorem fold_len {img : List UInt8} {np : Nat} {lim : Bool} : ∀ (l : List P.Q) (st s : P.St), (∀ x ∈ l, 0 ≤ x.c) → l.foldlM (P.piece img np lim) st = some s → (s.tx.length : Int) = st.tx.length + (P.smOf l).b ∧ 0 ≤ (P.smOf l).b := by
  intro l
  induction l with
  | nil => intro st s _ h; simp at h; subst h; simp [P.smOf]
  | cons x l ih =>
    intro st s hp h
    rw [List.foldlM_cons] at h
    rcases hb : P.piece img np lim st x with _ | s1
    · rw [hb] at h; cases h
    · rw [hb] at h
      obtain ⟨h1, h2⟩ := ih s1 s (fun y hy => hp y (List.mem_cons_of_mem _ hy)) h
      have h3 := piece_len hb
      have h4 := hp x List.mem_cons_self
      rw [smOf_cons]
      omega
theorem leaf_len {img : List UInt8} {np n : Nat} {lim root : Bool} {st : P.St} {x : P.Sm × P.St} (h : P.leafW img np lim n root st = some x) : (x.2.tx.length : Int) = st.tx.length + x.1.b ∧ 0 ≤ x.1.b := by
  unfold P.leafW at h
  split at h
  · rename_i hc
    rcases h1 : (P.pcL (P.pg img n)).foldlM (P.piece img np lim) (st.hit n 3) with _ | s
    · rw [h1] at h; cases h
    · rw [h1] at h
      cases h
      have h2 := fold_len _ _ _ (fun y hy => by
        obtain ⟨i, hi, rfl⟩ := List.getElem_of_mem hy
        have h3 := (P.Q.mayP_iff _).1 ((P.pcL_all hc.2.1).2 i hi)
        omega) h1
      exact h2
  · cases h
theorem kids_len {f : Nat → Bool → P.St → Option (P.Sm × P.St)} (hf : ∀ n root st x, f n root st = some x → (x.2.tx.length : Int) = st.tx.length + x.1.b ∧ 0 ≤ x.1.b) :
    ∀ (l : List P.Q) (a b : P.Sm × P.St), l.foldlM (P.kidStep f) a = some b → (b.2.tx.length : Int) = a.2.tx.length + (b.1.b - a.1.b) ∧ a.1.b ≤ b.1.b := by
  intro l
  induction l with
  | nil => intro a b h; simp at h; subst h; omega
  | cons x l ih =>
    intro a b h
    rw [List.foldlM_cons] at h
    rcases hb : P.kidStep f a x with _ | s1
    · rw [hb] at h; cases h
    · rw [hb] at h
      have h1 := ih s1 b h
      obtain ⟨z, h2, -, rfl⟩ := P.kid_some hb
      have h3 := hf _ _ _ _ h2
      simp only [P.Sm.add] at h1
      omega
theorem below_len {img : List UInt8} {np : Nat} {lim : Bool} (lv : Nat) : ∀ (n : Nat) (root : Bool) (st : P.St) (x : P.Sm × P.St), P.below img np lim lv n root st = some x → (x.2.tx.length : Int) = st.tx.length + x.1.b ∧ 0 ≤ x.1.b := by
  induction lv with
  | zero => intro n root st x h; rw [P.below] at h; exact leaf_len h
  | succ lv ih =>
    intro n root st x h
    rw [P.below] at h
    split at h
    · have h1 := kids_len ih _ _ _ h
      have h2 : ((⟨0, 0, 0⟩ : P.Sm), st.hit n 2).2.tx.length = st.tx.length := rfl
      have h3 : ((⟨0, 0, 0⟩ : P.Sm), st.hit n 2).1.b = 0 := rfl
      rw [h2, h3] at h1
      omega
    · cases h
theorem treeW_lim {img : List UInt8} {np : Nat} {s : P.Sup} (hb : s.b ≤ 1048576) : P.treeW img np true s P.St.new = P.treeW img np false s P.St.new := by
  unfold P.treeW
  by_cases hr : s.r = 0
  · rw [if_pos hr, if_pos hr]
  · rw [if_neg hr, if_neg hr]
    rcases h1 : P.below img np false (s.h.toNat - 1) s.r.toNat true P.St.new with _ | x
    · rcases h2 : P.below img np true (s.h.toNat - 1) s.r.toNat true P.St.new with _ | x
      · rfl
      · have h3 := P.below_unlim _ _ _ _ _ h2
        rw [h1] at h3
        cases h3
    · simp only [Option.bind_some]
      by_cases hc : x.1.b = s.b ∧ x.1.l = s.l
      · have h2 := below_len _ _ _ _ _ h1
        have h3 : (P.St.new.tx.length : Int) = 0 := rfl
        have h4 := P.below_lim _ _ _ _ _ h1 (by omega)
        rw [h4]
        rfl
      · rw [if_neg hc]
        rcases h2 : P.below img np true (s.h.toNat - 1) s.r.toNat true P.St.new with _ | y
        · rfl
        · have h3 := P.below_unlim _ _ _ _ _ h2
          rw [h1] at h3
          cases h3
          simp only [Option.bind_some]
          rw [if_neg hc]
theorem rwalk_eq {np : Nat} {img : List UInt8} {s : P.Sup} (hchk : s.chk = 0) : rwalk np img s = walkSpec (specC np img s) := by
  have hb := P.Sup.bounds hchk
  unfold rwalk walkSpec specC
  simp only
  by_cases hp : s.p = (np : Int)
  · rw [if_pos hp, if_pos hp, treeW_lim (by omega)]
    rcases P.treeW img np false s P.St.new with _ | s1
    · rfl
    · simp only [Option.bind_some]
      rcases P.chainW img np (np + 1) s.s.toNat [] s1 with _ | c1
      · rfl
      · simp only [Option.bind_some]
        unfold freeW
        simp only
        rcases P.chainW img np (np + 1) s.f.toNat [] c1.2 with _ | c2
        · rfl
        · simp only [Option.bind_some]
          by_cases h : P.freeOk np c2.1 c2.2 = true
          · rw [if_pos h, if_pos h]
            rfl
          · rw [if_neg h, if_neg h]
            rfl
  · rw [if_neg hp, if_neg hp]
/-- What an image opens as, as the reference has it. -/
def ropens (np : Nat) (img : List UInt8) : Option (P.Sup × Int × List UInt8 × P.St) :=
  if P.cE (P.pg img 0) (P.pg img 1) = 0 then (rwalk np img (P.cS (P.pg img 0) (P.pg img 1))).map fun x => (P.cS (P.pg img 0) (P.pg img 1), P.cI (P.pg img 0) (P.pg img 1), x.1, x.2)
  else none
theorem ropens_eq (np : Nat) (img : List UInt8) : ropens np img = opens np img := by
  unfold ropens opens
  by_cases h : P.cE (P.pg img 0) (P.pg img 1) = 0
  · rw [if_pos h, if_pos h, rwalk_eq (P.cE_chk h)]
  · rw [if_neg h, if_neg h]
end Go.Proofs.YtnjpaanjgbfbaaaGreat
