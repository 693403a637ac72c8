/- The walk of Decode, at a page that opens. Printed by gen_spm.py. -/
import Derived.Test.YtnjpaanjgbfbaaaGreatJ20
namespace Go.Proofs.YtnjpaanjgbfbaaaGreat
set_option linter.unusedVariables false
set_option linter.unusedSimpArgs false
open Go.RowKit

set_option maxRecDepth 100000 in
set_option maxHeartbeats 6400000 in
theorem dec_b1 (a : Option Addr) (len cap : Nat) (l : List UInt8) (w : World) (hr : Rd w a len l) (hc : len ≤ cap) (he : P.openErr l = 0) (d1 : ((P.openKind l : Int) == 1) = false) :
    Calls Tryz.prog 57 #[.slice a len cap] w fun e w' => e = .returned (.tuple #[supV (P.sSup l), .int .i64 (P.sErr l)]) ∧ Below w.heap.size w w' := by
  have HO := fun w1 (h : Rd w1 a len l) => open_fun a len cap l w1 h hc
  rw [he, show P.oK l = ((P.openKind l : Nat) : Int) by simp [P.oK, he], show P.oL l = ((P.openLevel l : Nat) : Int) by simp [P.oL, he], show P.oC l = ((P.openCount l : Nat) : Int) by simp [P.oC, he], show P.oB l = P.openBody l by simp [P.oB, he]] at HO
  have HO := Lib.hid HO
  have HR := Lib.hid hr
  have hBl := openBody_length he
  have hbad := P.sErr_bad he
  have hgood := P.sErr_good he
  obtain ⟨BD, hBD⟩ : ∃ BD, BD = P.openBody l := ⟨_, rfl⟩
  obtain ⟨kk, hkk⟩ : ∃ k, k = P.openKind l := ⟨_, rfl⟩
  obtain ⟨lv, hlv⟩ : ∃ k, k = P.openLevel l := ⟨_, rfl⟩
  obtain ⟨ct, hct⟩ : ∃ k, k = P.openCount l := ⟨_, rfl⟩
  obtain ⟨E, hE⟩ : ∃ E, E = P.sErr l := ⟨_, rfl⟩
  obtain ⟨S, hS⟩ : ∃ S, S = P.sSup l := ⟨_, rfl⟩
  rw [← hkk] at d1
  rw [← hE, ← hS, ← hBD, ← hkk, ← hlv, ← hct] at hbad hgood
  rw [← hBD, ← hkk, ← hlv, ← hct] at HO
  rw [← hBD] at hBl
  rw [← hE, ← hS]
  have HBAD := Lib.hid hbad
  have HGOOD := Lib.hid hgood
  have HZ := Lib.hid (cut_none (P.dec BD))
  have HV := Lib.hid (fun j h => dec_val BD j h)
  have HC := fun w => chk_any (P.dec BD) w
  unfold supV P.dec at HC
  simp only at HC
  have HC := Lib.hid HC
  clear hr he hbad hgood hBD hkk hlv hct hE hS
  have hx := HBAD.out (by rintro ⟨h, -⟩; simp [h] at d1)
  rw [hx.1, hx.2]
  unfold supV P.Sup.zero
  simp only
  clear hx
  go_enter Tryz.func57, Tryz.ntmps57
  go_wp2_with fail
  refine (HO.out _ (HR.out.below ((Below.refl _ w).alloc (Nat.le_refl _) _))).mono ?_
  rintro e w1 ⟨v, rfl, hown, hb1⟩
  have hb := below_alloc1 hb1
  have hB1 := made_below hb1
  have hlt : w.heap.size < w1.heap.size := lt_of_block hB1
  obtain ⟨ga, pv, hv, -, -, hr1, hpv⟩ := hown.pos (by omega)
  rw [hBl] at hv hr1
  have hcap34 : ¬ pv = 34 := by omega
  clear hpv
  subst hv
  have HR1 := Lib.hid hr1
  have HB1 := Lib.hid hB1
  clear hown hb1 hB1 hr1
  go_wp2_with fail
  have hbp : Below w1.heap.size w1 ((w1.alloc (.cells #[.int .i64 (kk : Nat), .int .i64 (lv : Nat), .int .i64 (ct : Nat), .slice (some ⟨ga, 0, none⟩) 248 pv] 89)).alloc (.cells #[.int .i64 0, .int .i64 0, .int .i64 0, .int .i64 0, .int .i64 0, .int .i64 0, .int .i64 0, .int .i64 0] 25)) := ((Below.refl _ w1).alloc (Nat.le_refl _) _).alloc (by simp) _
  have hBp : ((w1.alloc (.cells #[.int .i64 (kk : Nat), .int .i64 (lv : Nat), .int .i64 (ct : Nat), .slice (some ⟨ga, 0, none⟩) 248 pv] 89)).alloc (.cells #[.int .i64 0, .int .i64 0, .int .i64 0, .int .i64 0, .int .i64 0, .int .i64 0, .int .i64 0, .int .i64 0] 25)).heap[w1.heap.size]? = _ := alloc_old (alloc_new _ _ _ rfl) _
  have hBs : ((w1.alloc (.cells #[.int .i64 (kk : Nat), .int .i64 (lv : Nat), .int .i64 (ct : Nat), .slice (some ⟨ga, 0, none⟩) 248 pv] 89)).alloc (.cells #[.int .i64 0, .int .i64 0, .int .i64 0, .int .i64 0, .int .i64 0, .int .i64 0, .int .i64 0, .int .i64 0] 25)).heap[w1.heap.size + 1]? = _ := alloc_new _ _ _ (by simp)
  have HBP := Lib.hid hBp
  have HBS : Hid (((w1.alloc (.cells #[.int .i64 (kk : Nat), .int .i64 (lv : Nat), .int .i64 (ct : Nat), .slice (some ⟨ga, 0, none⟩) 248 pv] 89)).alloc (.cells #[.int .i64 0, .int .i64 0, .int .i64 0, .int .i64 0, .int .i64 0, .int .i64 0, .int .i64 0, .int .i64 0] 25)).heap[w1.heap.size + 1]? = some (.cells (supC (cutS (P.dec BD) 0)) 25 (0, 0))) := by rw [HZ.out]; exact hBs
  generalize ((w1.alloc (.cells #[.int .i64 (kk : Nat), .int .i64 (lv : Nat), .int .i64 (ct : Nat), .slice (some ⟨ga, 0, none⟩) 248 pv] 89)).alloc (.cells #[.int .i64 0, .int .i64 0, .int .i64 0, .int .i64 0, .int .i64 0, .int .i64 0, .int .i64 0, .int .i64 0] 25)) = wb at *
  have lp : w1.heap.size < wb.heap.size := lt_of_block hBp
  have ls : w1.heap.size + 1 < wb.heap.size := lt_of_block hBs
  clear hBp hBs
  refine (fields_any _ _).mono ?_
  rintro e wf ⟨g, rfl, hgl, ⟨tf, hgf⟩, hbf⟩
  have hsf := hbf.size
  have HBPF := Lib.hid ((hbf.block _ lp).trans HBP.out)
  have HBSF := Lib.hid ((hbf.block _ ls).trans HBS.out)
  have hgf' : g < wf.heap.size := lt_of_block hgf
  have HGF := Lib.hid hgf
  have hb3 := below_then hb hbp hb.size
  have hb4 := below_then hb3 hbf hb3.size
  have HB4 := Lib.hid (((hbp.trans (hbf.mono hbp.size)).block _ hlt).trans HB1.out)
  have HR4 := Lib.hid (HR1.out.below (hbp.trans (hbf.mono hbp.size)))
  have HNS := Lib.hid (fun p (h : some (⟨ga, 0, none⟩ : Addr) = some p) => (HR1.out.lt (by omega) p h))
  have l0 : w.heap.size < wf.heap.size := by omega
  have l1 : w1.heap.size < wf.heap.size := by omega
  have l2 : w1.heap.size + 1 < wf.heap.size := by omega
  clear hgf hbp hbf
  go_wp2
  go_loopw [7, 8, 37] (fun o at_ i wr => ∃ j : Nat, j ≤ 8 ∧ i = .int .i64 j ∧ o = .bool (okN BD false j) ∧ at_ = .int .i64 (offs j : Nat) ∧ wr.heap[w1.heap.size + 1]? = some (.cells (supC (cutS (P.dec BD) j)) 25 (0, 0)) ∧ Chg (fun k => k = w1.heap.size + 1) wf wr) (fun _ _ i _ => 8 - (intOf i).toNat)
  case atStart => exact ⟨0, by omega, rfl, rfl, rfl, HBSF.out, Chg.refl _ _⟩
  case round =>
    obtain ⟨j, hj, rfl, rfl, rfl, hcs, hch⟩ := hrel
    have hsr := hch.size
    have HCS := Lib.hid hcs
    have HBPR : Hid (wr.heap[w1.heap.size]? = _) := Lib.hid ((hch.block _ l1 (by omega)).trans HBPF.out)
    have HRR : Hid (Rd wr (some ⟨ga, 0, none⟩) 248 BD) := Lib.hid (HR4.out.chg hch (fun p hp he => by have := HNS.out p hp; omega))
    clear hcs
    by_cases hlt8 : j < 8
    · obtain ⟨F0, F1, F2⟩ := fields_at (w1.heap.size + 1) j hlt8
      have hgr : wr.heap[g]? = _ := (hch.block _ hgf' (by omega)).trans HGF.out
      have k0 := (cell_blk hgr (j * 3)).trans F0
      have k1 := (cell_blk hgr (j * 3 + 1)).trans F1
      have k2 := (cell_blk hgr (j * 3 + 2)).trans F2
      have hz := sz_le j hlt8
      have ho := offs_le j (by omega)
      clear hgr F0 F1 F2
      have kp : wr.cell? ⟨w1.heap.size, 3, none⟩ = some (.slice (some ⟨ga, 0, none⟩) 248 pv) := (cell_blk HBPR.out 3).trans rfl
      have m1 : w1.heap.size < wr.heap.size := by omega
      have m2 : w1.heap.size + 1 < wr.heap.size := by omega
      have mg : g < wr.heap.size := by omega
      unfold getV at k1
      unfold setV at k2
      have hbw : Below wr.heap.size wr (wr.alloc (.cells #[.int .i64 (sz j : Nat), .func (.func 96) #[.agg #[.pointer (some ⟨w1.heap.size + 1, j, none⟩)]] #[], .func (.func 97) #[.agg #[.pointer (some ⟨w1.heap.size + 1, j, none⟩)]] #[]] 152)) := (Below.refl _ wr).alloc (Nat.le_refl _) _
      have hnew : (wr.alloc (.cells #[.int .i64 (sz j : Nat), .func (.func 96) #[.agg #[.pointer (some ⟨w1.heap.size + 1, j, none⟩)]] #[], .func (.func 97) #[.agg #[.pointer (some ⟨w1.heap.size + 1, j, none⟩)]] #[]] 152)).heap[wr.heap.size]? = _ := alloc_new _ _ _ rfl
      rcases ok : okN BD false j with _ | _
      all_goals
        go_wp2_with fail
        generalize (wr.alloc (.cells #[.int .i64 (sz j : Nat), .func (.func 96) #[.agg #[.pointer (some ⟨w1.heap.size + 1, j, none⟩)]] #[], .func (.func 97) #[.agg #[.pointer (some ⟨w1.heap.size + 1, j, none⟩)]] #[]] 152)) = ws at *
        have hss := hbw.size
        refine (get_any _ _ _ BD _ _ _ (HRR.out.below hbw) (by omega)).mono ?_
        rintro e wg ⟨rfl, hbg⟩
        have hgs := hbg.size
        have hnew' := (hbg.block _ (lt_of_block hnew)).trans hnew
        have n0 : wg.cell? ⟨wr.heap.size, 0, none⟩ = some (.int .i64 (sz j : Nat)) := cell_blk hnew' 0
        have n2 : wg.cell? ⟨wr.heap.size, 2, none⟩ = some (.func (.func 97) #[.agg #[.pointer (some ⟨w1.heap.size + 1, j, none⟩)]] #[]) := cell_blk hnew' 2
        have hbs := below_then hbw hbg hbw.size
        have hSg := (hbs.block _ m2).trans HCS.out
        have hx : wg.cell? ⟨w1.heap.size + 1, j, none⟩ = some _ := (cell_blk hSg j).trans (supC_at _ j hlt8)
        have fx : wg.frozen? ⟨w1.heap.size + 1, j, none⟩ = false := free_blk hSg j
        have hst := (hch.trans (Chg.of_below hbs _))
        have HX := Lib.hid hx
        have FX := Lib.hid fx
        have HSG := Lib.hid hSg
        have HNW := Lib.hid hnew'
        clear hnew hnew' hx fx hSg k0 k1 k2 kp
        have hv := HV.out j hlt8
        have hok : okN BD false (j + 1) = (okN BD false j && (P.get BD (offs j : Nat) (sz j : Nat)).2) := rfl
        rw [ok] at hok
        generalize P.get BD (offs j : Nat) (sz j : Nat) = GT at *
        obtain ⟨gv, gf⟩ := GT
        subst hv
        rcases gf with _ | _
        all_goals
          simp only [Bool.and_true, Bool.and_false] at hok ⊢
          have HOK := Lib.hid hok
          clear hok
          go_wp2_with fail
          refine (set_fun _ _ _ _ HX.out FX.out).mono ?_
          rintro e wt ⟨rfl, ws1, rfl, hbs1⟩
          have hSs := blk_setCell ((hbs1.block _ (lt_of_block HSG.out)).trans HSG.out) j (.int .i64 (val (P.dec BD) j))
          rw [cut_succ _ j hlt8] at hSs
          have hch2 := (hst.trans (Chg.of_below hbs1 _)).setCell ⟨w1.heap.size + 1, j, none⟩ (.int .i64 (val (P.dec BD) j)) (.inr rfl)
          have hN1 := blk_other ((hbs1.block _ (lt_of_block HNW.out)).trans HNW.out) ⟨w1.heap.size + 1, j, none⟩ (by show wr.heap.size ≠ w1.heap.size + 1; omega) (.int .i64 (val (P.dec BD) j))
          have n1 := cell_blk hN1 0
          have HSS := Lib.hid hSs
          have HCH := Lib.hid hch2
          generalize World.setCell ws1 _ _ = wz at *
          clear hSs hch2 hN1 hbs1 n0 n2 hst hbs hbg hbw
          go_wp2
          go_roundw
          case rel => exact ⟨j + 1, by omega, by first | go_num | (simp; done), by rw [HOK.out], by first | (rw [offs_succ j hlt8]; done) | (rw [offs_succ j hlt8]; go_num), HSS.out, HCH.out⟩
          case measure => simp [intOf]; omega
    · obtain rfl : j = 8 := by omega
      have hk : okN BD false 8 = false := by rw [okN_all BD _ hBl]; rfl
      rw [hk]
      have hcs := HCS.out
      rw [cut_all] at hcs
      have hB8 := (hch.block _ l0 (by omega)).trans HB4.out
      have hbw : Below w.heap.size w wr := below_chg hb4 hch hb4.size (fun i e => by omega)
      have m0 : w.heap.size < wr.heap.size := by omega
      have kp : wr.cell? ⟨w1.heap.size, 3, none⟩ = some (.slice (some ⟨ga, 0, none⟩) 248 pv) := (cell_blk HBPR.out 3).trans rfl
      have HB8 := Lib.hid hB8
      have HRD : Hid (Rd wr (some ⟨ga, 34, none⟩) 214 (BD.drop 34)) := Lib.hid (HRR.out.drop 34)
      have ho8 : offs 8 = 34 := rfl
      rw [ho8]
      clear HB4 HB1 HGF HBSF HBPF HBS HBP hk
      have cl := cell_blk HB8.out
      have fz := free_blk HB8.out
      go_wp2
      generalize hW2 : World.setCell _ ⟨w.heap.size, 7, none⟩ _ = W2
      have hb2 : Below w.heap.size w W2 := by rw [← hW2]; exact set8' hbw _ _ _ _ _ _ _ _
      have cl2 := cell_blk (show W2.heap[w.heap.size]? = _ by rw [← hW2]; exact blk8 HB8.out _ _ _ _ _ _ _ _)
      exact bodyPost_ret (v := .tuple #[zsup, .int .i64 4]) (by simp [results, Tryz.results57, zsup, go_sem, cl2]) rfl ⟨rfl, hb2⟩
set_option maxRecDepth 100000 in
set_option maxHeartbeats 6400000 in
theorem dec_b2 (a : Option Addr) (len cap : Nat) (l : List UInt8) (w : World) (hr : Rd w a len l) (hc : len ≤ cap) (he : P.openErr l = 0) (d1 : ((P.openKind l : Int) == 1) = true) (d2 : ((P.openLevel l : Int) == 0) = false) :
    Calls Tryz.prog 57 #[.slice a len cap] w fun e w' => e = .returned (.tuple #[supV (P.sSup l), .int .i64 (P.sErr l)]) ∧ Below w.heap.size w w' := by
  have HO := fun w1 (h : Rd w1 a len l) => open_fun a len cap l w1 h hc
  rw [he, show P.oK l = ((P.openKind l : Nat) : Int) by simp [P.oK, he], show P.oL l = ((P.openLevel l : Nat) : Int) by simp [P.oL, he], show P.oC l = ((P.openCount l : Nat) : Int) by simp [P.oC, he], show P.oB l = P.openBody l by simp [P.oB, he]] at HO
  have HO := Lib.hid HO
  have HR := Lib.hid hr
  have hBl := openBody_length he
  have hbad := P.sErr_bad he
  have hgood := P.sErr_good he
  obtain ⟨BD, hBD⟩ : ∃ BD, BD = P.openBody l := ⟨_, rfl⟩
  obtain ⟨kk, hkk⟩ : ∃ k, k = P.openKind l := ⟨_, rfl⟩
  obtain ⟨lv, hlv⟩ : ∃ k, k = P.openLevel l := ⟨_, rfl⟩
  obtain ⟨ct, hct⟩ : ∃ k, k = P.openCount l := ⟨_, rfl⟩
  obtain ⟨E, hE⟩ : ∃ E, E = P.sErr l := ⟨_, rfl⟩
  obtain ⟨S, hS⟩ : ∃ S, S = P.sSup l := ⟨_, rfl⟩
  rw [← hkk] at d1
  rw [← hlv] at d2
  rw [← hE, ← hS, ← hBD, ← hkk, ← hlv, ← hct] at hbad hgood
  rw [← hBD, ← hkk, ← hlv, ← hct] at HO
  rw [← hBD] at hBl
  rw [← hE, ← hS]
  have HBAD := Lib.hid hbad
  have HGOOD := Lib.hid hgood
  have HZ := Lib.hid (cut_none (P.dec BD))
  have HV := Lib.hid (fun j h => dec_val BD j h)
  have HC := fun w => chk_any (P.dec BD) w
  unfold supV P.dec at HC
  simp only at HC
  have HC := Lib.hid HC
  clear hr he hbad hgood hBD hkk hlv hct hE hS
  have hx := HBAD.out (by rintro ⟨-, h, -⟩; simp [h] at d2)
  rw [hx.1, hx.2]
  unfold supV P.Sup.zero
  simp only
  clear hx
  go_enter Tryz.func57, Tryz.ntmps57
  go_wp2_with fail
  refine (HO.out _ (HR.out.below ((Below.refl _ w).alloc (Nat.le_refl _) _))).mono ?_
  rintro e w1 ⟨v, rfl, hown, hb1⟩
  have hb := below_alloc1 hb1
  have hB1 := made_below hb1
  have hlt : w.heap.size < w1.heap.size := lt_of_block hB1
  obtain ⟨ga, pv, hv, -, -, hr1, hpv⟩ := hown.pos (by omega)
  rw [hBl] at hv hr1
  have hcap34 : ¬ pv = 34 := by omega
  clear hpv
  subst hv
  have HR1 := Lib.hid hr1
  have HB1 := Lib.hid hB1
  clear hown hb1 hB1 hr1
  go_wp2_with fail
  have hbp : Below w1.heap.size w1 ((w1.alloc (.cells #[.int .i64 (kk : Nat), .int .i64 (lv : Nat), .int .i64 (ct : Nat), .slice (some ⟨ga, 0, none⟩) 248 pv] 89)).alloc (.cells #[.int .i64 0, .int .i64 0, .int .i64 0, .int .i64 0, .int .i64 0, .int .i64 0, .int .i64 0, .int .i64 0] 25)) := ((Below.refl _ w1).alloc (Nat.le_refl _) _).alloc (by simp) _
  have hBp : ((w1.alloc (.cells #[.int .i64 (kk : Nat), .int .i64 (lv : Nat), .int .i64 (ct : Nat), .slice (some ⟨ga, 0, none⟩) 248 pv] 89)).alloc (.cells #[.int .i64 0, .int .i64 0, .int .i64 0, .int .i64 0, .int .i64 0, .int .i64 0, .int .i64 0, .int .i64 0] 25)).heap[w1.heap.size]? = _ := alloc_old (alloc_new _ _ _ rfl) _
  have hBs : ((w1.alloc (.cells #[.int .i64 (kk : Nat), .int .i64 (lv : Nat), .int .i64 (ct : Nat), .slice (some ⟨ga, 0, none⟩) 248 pv] 89)).alloc (.cells #[.int .i64 0, .int .i64 0, .int .i64 0, .int .i64 0, .int .i64 0, .int .i64 0, .int .i64 0, .int .i64 0] 25)).heap[w1.heap.size + 1]? = _ := alloc_new _ _ _ (by simp)
  have HBP := Lib.hid hBp
  have HBS : Hid (((w1.alloc (.cells #[.int .i64 (kk : Nat), .int .i64 (lv : Nat), .int .i64 (ct : Nat), .slice (some ⟨ga, 0, none⟩) 248 pv] 89)).alloc (.cells #[.int .i64 0, .int .i64 0, .int .i64 0, .int .i64 0, .int .i64 0, .int .i64 0, .int .i64 0, .int .i64 0] 25)).heap[w1.heap.size + 1]? = some (.cells (supC (cutS (P.dec BD) 0)) 25 (0, 0))) := by rw [HZ.out]; exact hBs
  generalize ((w1.alloc (.cells #[.int .i64 (kk : Nat), .int .i64 (lv : Nat), .int .i64 (ct : Nat), .slice (some ⟨ga, 0, none⟩) 248 pv] 89)).alloc (.cells #[.int .i64 0, .int .i64 0, .int .i64 0, .int .i64 0, .int .i64 0, .int .i64 0, .int .i64 0, .int .i64 0] 25)) = wb at *
  have lp : w1.heap.size < wb.heap.size := lt_of_block hBp
  have ls : w1.heap.size + 1 < wb.heap.size := lt_of_block hBs
  clear hBp hBs
  refine (fields_any _ _).mono ?_
  rintro e wf ⟨g, rfl, hgl, ⟨tf, hgf⟩, hbf⟩
  have hsf := hbf.size
  have HBPF := Lib.hid ((hbf.block _ lp).trans HBP.out)
  have HBSF := Lib.hid ((hbf.block _ ls).trans HBS.out)
  have hgf' : g < wf.heap.size := lt_of_block hgf
  have HGF := Lib.hid hgf
  have hb3 := below_then hb hbp hb.size
  have hb4 := below_then hb3 hbf hb3.size
  have HB4 := Lib.hid (((hbp.trans (hbf.mono hbp.size)).block _ hlt).trans HB1.out)
  have HR4 := Lib.hid (HR1.out.below (hbp.trans (hbf.mono hbp.size)))
  have HNS := Lib.hid (fun p (h : some (⟨ga, 0, none⟩ : Addr) = some p) => (HR1.out.lt (by omega) p h))
  have l0 : w.heap.size < wf.heap.size := by omega
  have l1 : w1.heap.size < wf.heap.size := by omega
  have l2 : w1.heap.size + 1 < wf.heap.size := by omega
  clear hgf hbp hbf
  go_wp2
  go_loopw [7, 8, 37] (fun o at_ i wr => ∃ j : Nat, j ≤ 8 ∧ i = .int .i64 j ∧ o = .bool (okN BD false j) ∧ at_ = .int .i64 (offs j : Nat) ∧ wr.heap[w1.heap.size + 1]? = some (.cells (supC (cutS (P.dec BD) j)) 25 (0, 0)) ∧ Chg (fun k => k = w1.heap.size + 1) wf wr) (fun _ _ i _ => 8 - (intOf i).toNat)
  case atStart => exact ⟨0, by omega, rfl, rfl, rfl, HBSF.out, Chg.refl _ _⟩
  case round =>
    obtain ⟨j, hj, rfl, rfl, rfl, hcs, hch⟩ := hrel
    have hsr := hch.size
    have HCS := Lib.hid hcs
    have HBPR : Hid (wr.heap[w1.heap.size]? = _) := Lib.hid ((hch.block _ l1 (by omega)).trans HBPF.out)
    have HRR : Hid (Rd wr (some ⟨ga, 0, none⟩) 248 BD) := Lib.hid (HR4.out.chg hch (fun p hp he => by have := HNS.out p hp; omega))
    clear hcs
    by_cases hlt8 : j < 8
    · obtain ⟨F0, F1, F2⟩ := fields_at (w1.heap.size + 1) j hlt8
      have hgr : wr.heap[g]? = _ := (hch.block _ hgf' (by omega)).trans HGF.out
      have k0 := (cell_blk hgr (j * 3)).trans F0
      have k1 := (cell_blk hgr (j * 3 + 1)).trans F1
      have k2 := (cell_blk hgr (j * 3 + 2)).trans F2
      have hz := sz_le j hlt8
      have ho := offs_le j (by omega)
      clear hgr F0 F1 F2
      have kp : wr.cell? ⟨w1.heap.size, 3, none⟩ = some (.slice (some ⟨ga, 0, none⟩) 248 pv) := (cell_blk HBPR.out 3).trans rfl
      have m1 : w1.heap.size < wr.heap.size := by omega
      have m2 : w1.heap.size + 1 < wr.heap.size := by omega
      have mg : g < wr.heap.size := by omega
      unfold getV at k1
      unfold setV at k2
      have hbw : Below wr.heap.size wr (wr.alloc (.cells #[.int .i64 (sz j : Nat), .func (.func 96) #[.agg #[.pointer (some ⟨w1.heap.size + 1, j, none⟩)]] #[], .func (.func 97) #[.agg #[.pointer (some ⟨w1.heap.size + 1, j, none⟩)]] #[]] 152)) := (Below.refl _ wr).alloc (Nat.le_refl _) _
      have hnew : (wr.alloc (.cells #[.int .i64 (sz j : Nat), .func (.func 96) #[.agg #[.pointer (some ⟨w1.heap.size + 1, j, none⟩)]] #[], .func (.func 97) #[.agg #[.pointer (some ⟨w1.heap.size + 1, j, none⟩)]] #[]] 152)).heap[wr.heap.size]? = _ := alloc_new _ _ _ rfl
      rcases ok : okN BD false j with _ | _
      all_goals
        go_wp2_with fail
        generalize (wr.alloc (.cells #[.int .i64 (sz j : Nat), .func (.func 96) #[.agg #[.pointer (some ⟨w1.heap.size + 1, j, none⟩)]] #[], .func (.func 97) #[.agg #[.pointer (some ⟨w1.heap.size + 1, j, none⟩)]] #[]] 152)) = ws at *
        have hss := hbw.size
        refine (get_any _ _ _ BD _ _ _ (HRR.out.below hbw) (by omega)).mono ?_
        rintro e wg ⟨rfl, hbg⟩
        have hgs := hbg.size
        have hnew' := (hbg.block _ (lt_of_block hnew)).trans hnew
        have n0 : wg.cell? ⟨wr.heap.size, 0, none⟩ = some (.int .i64 (sz j : Nat)) := cell_blk hnew' 0
        have n2 : wg.cell? ⟨wr.heap.size, 2, none⟩ = some (.func (.func 97) #[.agg #[.pointer (some ⟨w1.heap.size + 1, j, none⟩)]] #[]) := cell_blk hnew' 2
        have hbs := below_then hbw hbg hbw.size
        have hSg := (hbs.block _ m2).trans HCS.out
        have hx : wg.cell? ⟨w1.heap.size + 1, j, none⟩ = some _ := (cell_blk hSg j).trans (supC_at _ j hlt8)
        have fx : wg.frozen? ⟨w1.heap.size + 1, j, none⟩ = false := free_blk hSg j
        have hst := (hch.trans (Chg.of_below hbs _))
        have HX := Lib.hid hx
        have FX := Lib.hid fx
        have HSG := Lib.hid hSg
        have HNW := Lib.hid hnew'
        clear hnew hnew' hx fx hSg k0 k1 k2 kp
        have hv := HV.out j hlt8
        have hok : okN BD false (j + 1) = (okN BD false j && (P.get BD (offs j : Nat) (sz j : Nat)).2) := rfl
        rw [ok] at hok
        generalize P.get BD (offs j : Nat) (sz j : Nat) = GT at *
        obtain ⟨gv, gf⟩ := GT
        subst hv
        rcases gf with _ | _
        all_goals
          simp only [Bool.and_true, Bool.and_false] at hok ⊢
          have HOK := Lib.hid hok
          clear hok
          go_wp2_with fail
          refine (set_fun _ _ _ _ HX.out FX.out).mono ?_
          rintro e wt ⟨rfl, ws1, rfl, hbs1⟩
          have hSs := blk_setCell ((hbs1.block _ (lt_of_block HSG.out)).trans HSG.out) j (.int .i64 (val (P.dec BD) j))
          rw [cut_succ _ j hlt8] at hSs
          have hch2 := (hst.trans (Chg.of_below hbs1 _)).setCell ⟨w1.heap.size + 1, j, none⟩ (.int .i64 (val (P.dec BD) j)) (.inr rfl)
          have hN1 := blk_other ((hbs1.block _ (lt_of_block HNW.out)).trans HNW.out) ⟨w1.heap.size + 1, j, none⟩ (by show wr.heap.size ≠ w1.heap.size + 1; omega) (.int .i64 (val (P.dec BD) j))
          have n1 := cell_blk hN1 0
          have HSS := Lib.hid hSs
          have HCH := Lib.hid hch2
          generalize World.setCell ws1 _ _ = wz at *
          clear hSs hch2 hN1 hbs1 n0 n2 hst hbs hbg hbw
          go_wp2
          go_roundw
          case rel => exact ⟨j + 1, by omega, by first | go_num | (simp; done), by rw [HOK.out], by first | (rw [offs_succ j hlt8]; done) | (rw [offs_succ j hlt8]; go_num), HSS.out, HCH.out⟩
          case measure => simp [intOf]; omega
    · obtain rfl : j = 8 := by omega
      have hk : okN BD false 8 = false := by rw [okN_all BD _ hBl]; rfl
      rw [hk]
      have hcs := HCS.out
      rw [cut_all] at hcs
      have hB8 := (hch.block _ l0 (by omega)).trans HB4.out
      have hbw : Below w.heap.size w wr := below_chg hb4 hch hb4.size (fun i e => by omega)
      have m0 : w.heap.size < wr.heap.size := by omega
      have kp : wr.cell? ⟨w1.heap.size, 3, none⟩ = some (.slice (some ⟨ga, 0, none⟩) 248 pv) := (cell_blk HBPR.out 3).trans rfl
      have HB8 := Lib.hid hB8
      have HRD : Hid (Rd wr (some ⟨ga, 34, none⟩) 214 (BD.drop 34)) := Lib.hid (HRR.out.drop 34)
      have ho8 : offs 8 = 34 := rfl
      rw [ho8]
      clear HB4 HB1 HGF HBSF HBPF HBS HBP hk
      have cl := cell_blk HB8.out
      have fz := free_blk HB8.out
      go_wp2
      generalize hW2 : World.setCell _ ⟨w.heap.size, 7, none⟩ _ = W2
      have hb2 : Below w.heap.size w W2 := by rw [← hW2]; exact set8' hbw _ _ _ _ _ _ _ _
      have cl2 := cell_blk (show W2.heap[w.heap.size]? = _ by rw [← hW2]; exact blk8 HB8.out _ _ _ _ _ _ _ _)
      exact bodyPost_ret (v := .tuple #[zsup, .int .i64 4]) (by simp [results, Tryz.results57, zsup, go_sem, cl2]) rfl ⟨rfl, hb2⟩
end Go.Proofs.YtnjpaanjgbfbaaaGreat
