/- audit.Walk, whatever superblock. Printed by gen_auw.py. -/
import Derived.Test.YtnjpaanjgbfbaaaJ42
import Derived.Test.YtnjpaanjgbfbaaaJ43
namespace Go.Proofs.Ytnjpaanjgbfbaaa
set_option linter.unusedVariables false
set_option linter.unusedSimpArgs false
open Go.RowKit

/-- How Walk ends. -/
def AWEnd (d np : Nat) (img : List UInt8) (ops : Nat) (s : P.Sup) (w : World) (e : Ending) (w' : World) : Prop :=
  Chg (OnlyD d) w w' ∧ (∃ k, k ≤ np ∧ Dev (OnlyD d) w' d np img (ops + k) []) ∧
  ((s.chk ≠ 0 ∧ e = .returned (.tuple #[repZ, .int .i64 1])) ∨ (s.chk = 0 ∧ walkSpec (specC np img s) = none ∧ e = .returned (.tuple #[repZ, .int .i64 8])) ∨
   (s.chk = 0 ∧ ∃ sl st vP vT vS vG, walkSpec (specC np img s) = some (sl, st) ∧ e = .returned (.tuple #[.agg (repC s (-1) vP vT vS vG), .int .i64 0]) ∧ RepIs w' w.heap.size np st sl vP vT vS vG))
theorem awk_fin {T : Nat → Prop} {B : Nat} {w wx : World} {d np ops : Nat} {img outs : List UInt8} (hB : w.heap.size ≤ B) (hd : d < w.heap.size) (hD : Dev T wx d np img ops outs) (hT : T B) (hC : Chg (WD w d) w wx) (u0 u1 u2 u3 u4 u5 u6 u7 u8 u9 u10 u11 u12 : Value) :
    Dev (OnlyD d) (((((((((((((wx.setCell ⟨B, 0, none⟩ u0).setCell ⟨B, 1, none⟩ u1).setCell ⟨B, 2, none⟩ u2).setCell ⟨B, 3, none⟩ u3).setCell ⟨B, 4, none⟩ u4).setCell ⟨B, 5, none⟩ u5).setCell ⟨B, 6, none⟩ u6).setCell ⟨B, 7, none⟩ u7).setCell ⟨B, 8, none⟩ u8).setCell ⟨B, 9, none⟩ u9).setCell ⟨B, 10, none⟩ u10).setCell ⟨B, 11, none⟩ u11).setCell ⟨B, 12, none⟩ u12) d np img ops outs ∧ Chg (OnlyD d) w (((((((((((((wx.setCell ⟨B, 0, none⟩ u0).setCell ⟨B, 1, none⟩ u1).setCell ⟨B, 2, none⟩ u2).setCell ⟨B, 3, none⟩ u3).setCell ⟨B, 4, none⟩ u4).setCell ⟨B, 5, none⟩ u5).setCell ⟨B, 6, none⟩ u6).setCell ⟨B, 7, none⟩ u7).setCell ⟨B, 8, none⟩ u8).setCell ⟨B, 9, none⟩ u9).setCell ⟨B, 10, none⟩ u10).setCell ⟨B, 11, none⟩ u11).setCell ⟨B, 12, none⟩ u12) := by
  have h1 := chg13 (Chg.refl (fun j => j = B) wx) (.inr rfl) u0 u1 u2 u3 u4 u5 u6 u7 u8 u9 u10 u11 u12
  refine ⟨(hD.chg h1 (fun j _ e => e ▸ hT) (by omega)).sets (fun j _ e => e ▸ hD.mem) rfl, ?_⟩
  refine (hC.then h1 (fun i hi e => by omega)).mono fun i hi e => ?_
  rcases e with e | e
  · exact e
  · omega
set_option maxRecDepth 100000 in
set_option maxHeartbeats 6400000 in
theorem awalk_any (d np : Nat) (img : List UInt8) (ops : Nat) (s : P.Sup) (w : World) (h : Dev (OnlyD d) w d np img ops []) (ho : ops ≤ 800000) :
    Calls Try.prog 8 #[.pointer (some ⟨d, 0, none⟩), supV s] w (AWEnd d np img ops s w) := by
  obtain ⟨w0, hw0⟩ : ∃ w0, w0 = (w.alloc (.cells #[.int .i64 s.g, .int .i64 s.p, .int .i64 s.r, .int .i64 s.h, .int .i64 s.b, .int .i64 s.l, .int .i64 s.s, .int .i64 s.f] 24)).alloc (.cells #[.int .i64 0, .int .i64 0, .int .i64 0, .int .i64 0, .int .i64 0, .int .i64 0, .int .i64 0, .int .i64 0, .int .i64 0, .slice none 0 0, .slice none 0 0, .slice none 0 0, .slice none 0 0] 35) := ⟨_, rfl⟩
  have hb0 : Below w.heap.size w w0 := by rw [hw0]; exact ((Below.refl _ w).alloc (Nat.le_refl _) _).alloc (by simp) _
  have s0 : w0.heap[w.heap.size]? = some (.cells #[.int .i64 s.g, .int .i64 s.p, .int .i64 s.r, .int .i64 s.h, .int .i64 s.b, .int .i64 s.l, .int .i64 s.s, .int .i64 s.f] 24 (0, 0)) := by rw [hw0]; exact alloc_old (alloc_new _ _ _ rfl) _
  have k0 : w0.heap[w.heap.size + 1]? = some (.cells #[.int .i64 0, .int .i64 0, .int .i64 0, .int .i64 0, .int .i64 0, .int .i64 0, .int .i64 0, .int .i64 0, .int .i64 0, .slice none 0 0, .slice none 0 0, .slice none 0 0, .slice none 0 0] 35 (0, 0)) := by rw [hw0]; exact alloc_new _ _ _ (by simp)
  have hd := h.lt
  have HCK := Lib.hid (chk_any s w0)
  have D0 := Lib.hid ((h.wide.sets (T := WD w d) (fun j _ e => e) (.inl rfl)).below hb0)
  have C0 := Lib.hid (Chg.of_below hb0 (WD w d))
  have K0 := Lib.hid k0
  have S0 := Lib.hid s0
  have HDL := Lib.hid hd
  have hcc := s.chk_cases
  obtain ⟨E, hE⟩ : ∃ E, E = s.chk := ⟨_, rfl⟩
  rw [← hE] at HCK
  have hE01 : E = 0 ∨ E = 1 := by rw [hE]; rcases hcc with ⟨-, e⟩ | ⟨-, e⟩ <;> rw [e] <;> simp
  have HE := Lib.hid hE
  have gs := cell_blk s0
  unfold supV at HCK ⊢
  clear h hb0 k0 s0 hd hcc hE
  go_enter Try.func8, Try.ntmps8
  go_wp2_with fail
  rw [← hw0]
  clear hw0
  refine HCK.out.mono ?_
  rintro e w8 ⟨rfl, hb8⟩
  have D8 := Lib.hid (D0.out.below hb8)
  have C8 := Lib.hid (C0.out.trans (Chg.of_below hb8 _))
  have K8 := Lib.hid ((hb8.block _ (lt_of_block K0.out)).trans K0.out)
  have S8 := Lib.hid ((hb8.block _ (lt_of_block S0.out)).trans S0.out)
  clear hb8 gs
  rcases hE01 with hE1 | hE1
  rotate_left
  · subst hE1
    have HNE := Lib.hid (show s.chk ≠ 0 by rw [← HE.out]; decide)
    clear HE
    have g := cell_blk K8.out
    have fz := free_blk K8.out
    have cl := cell_blk (blk13 K8.out (.int .i64 0) (.int .i64 0) (.int .i64 0) (.int .i64 0) (.int .i64 0) (.int .i64 0) (.int .i64 0) (.int .i64 0) (.int .i64 0) (.slice none 0 0) (.slice none 0 0) (.slice none 0 0) (.slice none 0 0))
    have HF := Lib.hid (awk_fin (B := w.heap.size + 1) (by omega) HDL.out D8.out (.inr (by omega)) C8.out (.int .i64 0) (.int .i64 0) (.int .i64 0) (.int .i64 0) (.int .i64 0) (.int .i64 0) (.int .i64 0) (.int .i64 0) (.int .i64 0) (.slice none 0 0) (.slice none 0 0) (.slice none 0 0) (.slice none 0 0))
    go_wp2
    refine bodyPost_ret (v := .tuple #[repZ, .int .i64 1]) (by simp [results, Try.results8, go_sem, cl, repZ, repC, P.Sup.zero]) rfl ⟨HF.out.2, ⟨0, by omega, HF.out.1⟩, .inl ⟨HNE.out, rfl⟩⟩
  subst hE1
  have hck := HE.out.symm
  have gs := cell_blk S8.out
  have HFR := Lib.hid (fresh_any d np img s ops [] w8)
  unfold supV at HFR
  have HCK2 := Lib.hid hck
  clear HE hck HCK
  go_wp2_with fail
  refine HFR.out.mono ?_
  rintro e w9 ⟨rfl, hf9⟩
  have HF9 := Lib.hid hf9
  have K9 := Lib.hid ((hf9.1.block _ (lt_of_block K8.out)).trans K8.out)
  have D9 := Lib.hid (D8.out.below hf9.1)
  have C9 := Lib.hid (C8.out.trans (Chg.of_below hf9.1 _))
  have Z8 := Lib.hid (lt_of_block K8.out)
  clear hf9 gs
  by_cases hp : s.p = (np : Int)
  rotate_left
  · have HW := Lib.hid (walk_bad (freshC w8 d np img s ops []) (WD w d) ops [] _ _ _ w9 D9.out HF9.out.2.2.1 hp)
    have HNO := Lib.hid (show walkSpec (specC np img s) = none by unfold walkSpec; exact if_neg hp)
    go_wp2_with fail
    refine HW.out.mono ?_
    rintro e w10 ⟨rfl, hd10, hb10⟩
    have D10' := Lib.hid hd10
    have C10' := Lib.hid (C9.out.trans (Chg.of_below hb10 _))
    have K10' := Lib.hid ((hb10.block _ (lt_of_block K9.out)).trans K9.out)
    clear hd10 hb10 hp
    have g := cell_blk K10'.out
    have fz := free_blk K10'.out
    have cl := cell_blk (blk13 K10'.out (.int .i64 0) (.int .i64 0) (.int .i64 0) (.int .i64 0) (.int .i64 0) (.int .i64 0) (.int .i64 0) (.int .i64 0) (.int .i64 0) (.slice none 0 0) (.slice none 0 0) (.slice none 0 0) (.slice none 0 0))
    have HF := Lib.hid (awk_fin (B := w.heap.size + 1) (by omega) HDL.out D10'.out (.inr (by omega)) C10'.out (.int .i64 0) (.int .i64 0) (.int .i64 0) (.int .i64 0) (.int .i64 0) (.int .i64 0) (.int .i64 0) (.int .i64 0) (.int .i64 0) (.slice none 0 0) (.slice none 0 0) (.slice none 0 0) (.slice none 0 0))
    go_wp2
    refine bodyPost_ret (v := .tuple #[repZ, .int .i64 8]) (by simp [results, Try.results8, go_sem, cl, repZ, repC, P.Sup.zero]) rfl ⟨HF.out.2, ⟨0, by omega, HF.out.1⟩, .inr (.inl ⟨HCK2.out, HNO.out, rfl⟩)⟩
  have HW := Lib.hid (walk_ok (freshC w8 d np img s ops []) (freshS w8 d) w9 (fresh_wk D8.out hp (by omega) HF9.out) HCK2.out)
  have HFS := Lib.hid (fun w10 S' (hst : Stp (freshS w8 d) w9 S' w10) => (show Chg (WD w d) w w10 ∧ w10.heap[w.heap.size + 1]? = w9.heap[w.heap.size + 1]? from
    ⟨C9.out.trans (hst.1.mono fun i hi e => by
      have := Z8.out
      unfold freshS at e
      unfold WD
      omega), hst.1.block _ (lt_of_block K9.out) (by have := Z8.out; have := HDL.out; unfold freshS; omega)⟩))
  go_wp2_with fail
  refine HW.out.mono ?_
  rintro e w10 (⟨st', S', vS, vG, sl, hsp, rfl, hdn, hst⟩ | ⟨hsp, rfl, S', k, hk, hd10, hcl, hst⟩ | ⟨rfl, S', k, hk, hd10, hcl, hlo, hst⟩)
  rotate_left
  · have HNO := Lib.hid (show walkSpec (specC np img s) = none by
      rw [← show walkSpec (freshC w8 d np img s ops []) = walkSpec (specC np img s) from walkSpec_eq _, hsp])
    have C10' := Lib.hid (HFS.out _ _ hst).1
    have K10' := Lib.hid ((HFS.out _ _ hst).2.trans K9.out)
    have D10' := Lib.hid (hd10.more K10'.out (by intro k x; rcases k with _|_|_|_|_|_|_|_|_|_|_|_|_|k <;> simp))
    have HK' := Lib.hid hk
    clear hd10 hst hcl hsp hk
    have g := cell_blk K10'.out
    have fz := free_blk K10'.out
    have cl := cell_blk (blk13 K10'.out (.int .i64 0) (.int .i64 0) (.int .i64 0) (.int .i64 0) (.int .i64 0) (.int .i64 0) (.int .i64 0) (.int .i64 0) (.int .i64 0) (.slice none 0 0) (.slice none 0 0) (.slice none 0 0) (.slice none 0 0))
    have HF := Lib.hid (awk_fin (B := w.heap.size + 1) (by omega) HDL.out D10'.out (.inr rfl) C10'.out (.int .i64 0) (.int .i64 0) (.int .i64 0) (.int .i64 0) (.int .i64 0) (.int .i64 0) (.int .i64 0) (.int .i64 0) (.int .i64 0) (.slice none 0 0) (.slice none 0 0) (.slice none 0 0) (.slice none 0 0))
    go_wp2
    refine bodyPost_ret (v := .tuple #[repZ, .int .i64 8]) (by simp [results, Try.results8, go_sem, cl, repZ, repC, P.Sup.zero]) rfl ⟨HF.out.2, ⟨k, HK'.out, by have := HF.out.1; simpa only [freshC, List.drop_nil] using this⟩, .inr (.inl ⟨HCK2.out, HNO.out, rfl⟩)⟩
  · simp only [freshC, List.drop_nil] at hlo
    cases hlo
  have HSP := Lib.hid (show walkSpec (specC np img s) = some (sl, st') by
    rw [← show walkSpec (freshC w8 d np img s ops []) = walkSpec (specC np img s) from walkSpec_eq _, hsp])
  have C10 := Lib.hid (HFS.out _ _ hst).1
  have K10 := Lib.hid ((HFS.out _ _ hst).2.trans K9.out)
  obtain ⟨hd11, -, h84, -, -, -, hS11, -, hG11, vP, vT, nm, hq11, hP11, hT11, -⟩ := hdn
  obtain ⟨L, hL⟩ : ∃ L, L = pgsTo st' np := ⟨_, rfl⟩
  simp only [freshC, List.drop_nil] at hd11 hS11 hP11 hT11 hG11 hq11
  rw [← hL] at hG11
  obtain ⟨N, hN⟩ : ∃ N, N = L.length := ⟨_, rfl⟩
  rw [← hN] at hG11
  obtain ⟨aG, cG, rfl, -⟩ := OV.form hG11
  obtain ⟨aP, cP, rfl, -⟩ := OV.form hP11
  obtain ⟨aT, cT, rfl, -⟩ := OB.form hT11
  obtain ⟨aS, cS, rfl, -⟩ := OB.form hS11
  obtain ⟨nP, hnP⟩ : ∃ n, n = st'.ps.length := ⟨_, rfl⟩
  obtain ⟨nT, hnT⟩ : ∃ n, n = st'.tx.length := ⟨_, rfl⟩
  obtain ⟨nS, hnS⟩ : ∃ n, n = sl.length := ⟨_, rfl⟩
  rw [← hnP] at hq11 hP11
  rw [← hnT] at hq11
  rw [← hnS] at hq11
  have q2 := cell_blk hq11
  have f2 := free_blk hq11
  unfold wkG at q2
  simp only at q2
  have hk := cell_blk K10.out
  have hf := free_blk K10.out
  have cl := cell_blk (blk13 K10.out (.int .i64 s.g) (.int .i64 (np : Int)) (.int .i64 s.r) (.int .i64 s.h) (.int .i64 s.b) (.int .i64 s.l) (.int .i64 s.s) (.int .i64 s.f) (.int .i64 (-1)) (.slice aP nP cP) (.slice aT nT cT) (.slice aS nS cS) (.slice aG N cG))
  have D11 := Lib.hid (hd11.more K10.out (by intro k x; rcases k with _|_|_|_|_|_|_|_|_|_|_|_|_|k <;> simp))
  have HSC := Lib.hid (chg13 (Chg.refl (fun j => j = w.heap.size + 1) w10) (.inr rfl) (.int .i64 s.g) (.int .i64 (np : Int)) (.int .i64 s.r) (.int .i64 s.h) (.int .i64 s.b) (.int .i64 s.l) (.int .i64 s.s) (.int .i64 s.f) (.int .i64 (-1)) (.slice aP nP cP) (.slice aT nT cT) (.slice aS nS cS) (.slice aG N cG))
  have HF := Lib.hid (awk_fin (B := w.heap.size + 1) (by omega) HDL.out D11.out (.inr rfl) C10.out (.int .i64 s.g) (.int .i64 (np : Int)) (.int .i64 s.r) (.int .i64 s.h) (.int .i64 s.b) (.int .i64 s.l) (.int .i64 s.s) (.int .i64 s.f) (.int .i64 (-1)) (.slice aP nP cP) (.slice aT nT cT) (.slice aS nS cS) (.slice aG N cG))
  have HFAR := Lib.hid (show (∀ k, (Value.slice aP nP cP).ownBlock = some k → ¬ k = w.heap.size + 1) ∧ (∀ k, (Value.slice aT nT cT).ownBlock = some k → ¬ k = w.heap.size + 1) ∧ (∀ k, (Value.slice aS nS cS).ownBlock = some k → ¬ k = w.heap.size + 1) ∧ (∀ k, (Value.slice aG N cG).ownBlock = some k → ¬ k = w.heap.size + 1) by
    have hz := Z8.out
    rw [hnT, hnS]
    exact ⟨OV.far hP11 hz, OB.far hT11 hz, OB.far hS11 hz, OV.far hG11 hz⟩)
  have HFIN := Lib.hid (show OV w10 w8.heap.size 52 4 (.slice aP nP cP) nP (qCs st'.ps) ∧ OB w10 w8.heap.size (.slice aT nT cT) st'.tx ∧ OB w10 w8.heap.size (.slice aS nS cS) sl ∧ OV w10 w8.heap.size 3 1 (.slice aG N cG) N (ivs L) by
    rw [hnT, hnS]
    exact ⟨hP11, hT11, hS11, hG11⟩)
  have HNS := Lib.hid (show nP = st'.ps.length ∧ nT = st'.tx.length ∧ nS = sl.length ∧ N = L.length ∧ L = pgsTo st' np from ⟨hnP, hnT, hnS, hN, hL⟩)
  have HPP := Lib.hid hp
  clear hsp hst hd11 hS11 hG11 hP11 hT11 hq11 hL hN hnP hnT hnS h84
  go_wp2
  refine bodyPost_ret (v := .tuple #[.agg (repC s (-1) (.slice aP nP cP) (.slice aT nT cT) (.slice aS nS cS) (.slice aG N cG)), .int .i64 0]) (by simp [results, Try.results8, go_sem, cl, repC, HPP.out]) rfl ?_
  obtain ⟨e1, e2, e3, e4, e5⟩ := HNS.out
  obtain ⟨f3, f4, f5, f6⟩ := HFIN.out
  obtain ⟨k3, k4, k5, k6⟩ := HFAR.out
  have hc := HSC.out
  have hZ : w.heap.size ≤ w8.heap.size := by have := Z8.out; omega
  refine ⟨HF.out.2, ⟨P.cnt np st', P.cnt_le _ _, HF.out.1⟩, .inr (.inr ⟨HCK2.out, sl, st', _, _, _, _, HSP.out, rfl, ?_, (OB.chg f4 hc k4).mono hZ, (OB.chg f5 hc k5).mono hZ, ?_⟩)⟩
  · rw [← e1]
    exact (OVc.chg f3 hc k3).mono hZ
  · rw [← e5, ← e4]
    exact (OVc.chg f6 hc k6).mono hZ
set_option maxRecDepth 100000 in
set_option maxHeartbeats 1600000 in
theorem awalk_nil (s : P.Sup) (w : World) : Calls Try.prog 8 #[.pointer none, supV s] w fun e w' => e = .returned (.tuple #[repZ, .int .i64 1]) ∧ Below w.heap.size w w' := by
  obtain ⟨w0, hw0⟩ : ∃ w0, w0 = (w.alloc (.cells #[.int .i64 s.g, .int .i64 s.p, .int .i64 s.r, .int .i64 s.h, .int .i64 s.b, .int .i64 s.l, .int .i64 s.s, .int .i64 s.f] 24)).alloc (.cells #[.int .i64 0, .int .i64 0, .int .i64 0, .int .i64 0, .int .i64 0, .int .i64 0, .int .i64 0, .int .i64 0, .int .i64 0, .slice none 0 0, .slice none 0 0, .slice none 0 0, .slice none 0 0] 35) := ⟨_, rfl⟩
  have hb0 : Below w.heap.size w w0 := by rw [hw0]; exact ((Below.refl _ w).alloc (Nat.le_refl _) _).alloc (by simp) _
  have k0 : w0.heap[w.heap.size + 1]? = some (.cells #[.int .i64 0, .int .i64 0, .int .i64 0, .int .i64 0, .int .i64 0, .int .i64 0, .int .i64 0, .int .i64 0, .int .i64 0, .slice none 0 0, .slice none 0 0, .slice none 0 0, .slice none 0 0] 35 (0, 0)) := by rw [hw0]; exact alloc_new _ _ _ (by simp)
  have g := cell_blk k0
  have fz := free_blk k0
  have cl := cell_blk (blk13 k0 (.int .i64 0) (.int .i64 0) (.int .i64 0) (.int .i64 0) (.int .i64 0) (.int .i64 0) (.int .i64 0) (.int .i64 0) (.int .i64 0) (.slice none 0 0) (.slice none 0 0) (.slice none 0 0) (.slice none 0 0))
  have HF := Lib.hid (below_chg hb0 (chg13 (Chg.refl (fun j => j = w.heap.size + 1) w0) (.inr rfl) (.int .i64 0) (.int .i64 0) (.int .i64 0) (.int .i64 0) (.int .i64 0) (.int .i64 0) (.int .i64 0) (.int .i64 0) (.int .i64 0) (.slice none 0 0) (.slice none 0 0) (.slice none 0 0) (.slice none 0 0)) hb0.size (fun i e => by omega))
  clear hb0 k0
  unfold supV
  go_enter Try.func8, Try.ntmps8
  go_upto_region 2 with (fail)
  rw [← hw0]
  clear hw0
  go_wp2
  refine bodyPost_ret (v := .tuple #[repZ, .int .i64 1]) (by simp [results, Try.results8, go_sem, cl, repZ, repC, P.Sup.zero]) rfl ⟨rfl, HF.out⟩
end Go.Proofs.Ytnjpaanjgbfbaaa
