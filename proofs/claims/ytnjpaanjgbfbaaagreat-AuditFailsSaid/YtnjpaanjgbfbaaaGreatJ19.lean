/- The walk of the reference's DecodeSuper, at a page that opens. Printed by gen_spi.py. -/
import Derived.Test.YtnjpaanjgbfbaaaGreatJ18
namespace Go.Proofs.YtnjpaanjgbfbaaaGreat
set_option linter.unusedVariables false
set_option linter.unusedSimpArgs false
open Go.RowKit

theorem set8' {w w1 : World} {B : Nat} (h : Below B w w1) (u0 u1 u2 u3 u4 u5 u6 u7 : Value) :
    Below B w ((((((((w1.setCell ⟨B, 0, none⟩ u0).setCell ⟨B, 1, none⟩ u1).setCell ⟨B, 2, none⟩ u2).setCell ⟨B, 3, none⟩ u3).setCell ⟨B, 4, none⟩ u4).setCell ⟨B, 5, none⟩ u5).setCell ⟨B, 6, none⟩ u6).setCell ⟨B, 7, none⟩ u7) :=
  (((((((h.setCell (Nat.le_refl _) _).setCell (Nat.le_refl _) _).setCell (Nat.le_refl _) _).setCell (Nat.le_refl _) _).setCell (Nat.le_refl _) _).setCell (Nat.le_refl _) _).setCell (Nat.le_refl _) _).setCell (Nat.le_refl _) _
theorem openBody_length {l : List UInt8} (h : P.openErr l = 0) : (P.openBody l).length = 248 := by
  have := P.openErr_len l h
  simp [P.openBody]
  omega
set_option maxRecDepth 100000 in
set_option maxHeartbeats 6400000 in
theorem rdec_body (a : Option Addr) (len cap : Nat) (l : List UInt8) (w : World) (hr : Rd w a len l) (hc : len ≤ cap) (he : P.openErr l = 0) :
    Calls Tryz.prog 46 #[.slice a len cap] w fun e w' => e = .returned (.tuple #[supV (P.sSup l), .int .i64 (P.sErr l)]) ∧ Below w.heap.size w w' := by
  have HO := fun w1 (h : Rd w1 a len l) => ropen_fun a len cap l w1 h hc
  rw [he, show P.oK l = ((P.openKind l : Nat) : Int) by simp [P.oK, he], show P.oL l = ((P.openLevel l : Nat) : Int) by simp [P.oL, he], show P.oC l = ((P.openCount l : Nat) : Int) by simp [P.oC, he], show P.oB l = P.openBody l by simp [P.oB, he]] at HO
  have HO := Lib.hid HO
  have HR := Lib.hid hr
  have hBl := openBody_length he
  have hbad := P.sErr_bad he
  have hgood := P.sErr_good he
  obtain ⟨BD, hBD⟩ : ∃ BD, BD = P.openBody l := ⟨_, rfl⟩
  obtain ⟨kk, hkk⟩ : ∃ k, k = P.openKind l := ⟨_, rfl⟩
  obtain ⟨lv, hlv⟩ : ∃ k, k = P.openLevel l := ⟨_, rfl⟩
  obtain ⟨ct, hct⟩ : ∃ k, k = P.openCount l := ⟨_, rfl⟩
  obtain ⟨E, hE⟩ : ∃ E, E = P.sErr l := ⟨_, rfl⟩
  obtain ⟨S, hS⟩ : ∃ S, S = P.sSup l := ⟨_, rfl⟩
  rw [← hE, ← hS, ← hBD, ← hkk, ← hlv, ← hct] at hbad hgood
  rw [← hBD, ← hkk, ← hlv, ← hct] at HO
  rw [← hBD] at hBl
  rw [← hE, ← hS]
  have HC := fun w => rchk_any (P.dec BD) w
  unfold supV P.dec at HC
  simp only at HC
  have HC := Lib.hid HC
  have HBAD := Lib.hid hbad
  have HGOOD := Lib.hid hgood
  clear hr he hbad hgood hBD hkk hlv hct hE hS
  rcases d1 : ((kk : Int) != 1) with _ | _
  case true =>
    have hx := HBAD.out (by rintro ⟨h, -⟩; simp [h] at d1)
    rw [hx.1, hx.2]
    unfold supV P.Sup.zero
    simp only
    clear hx
    go_enter Tryz.func46, Tryz.ntmps46
    go_wp2_with fail
    refine (HO.out _ (HR.out.below ((Below.refl _ w).alloc (Nat.le_refl _) _))).mono ?_
    rintro e w1 ⟨v, rfl, hown, hb1⟩
    have hb := below_alloc1 hb1
    have hB1 := made_below hb1
    have hlt : w.heap.size < w1.heap.size := lt_of_block hB1
    obtain ⟨av, pv, hv, hr1, -, -, -⟩ := hown.form
    rw [hBl] at hv hr1
    subst hv
    have HR1 := Lib.hid hr1
    have HB1 := Lib.hid hB1
    clear hown hb1 hB1 hr1
    go_wp2_with fail
    have hbp : Below w1.heap.size w1 (w1.alloc (.cells #[.int .i64 (kk : Nat), .int .i64 (lv : Nat), .int .i64 (ct : Nat), .slice av 248 pv] 89)) := (Below.refl _ w1).alloc (Nat.le_refl _) _
    have hBp : (w1.alloc (.cells #[.int .i64 (kk : Nat), .int .i64 (lv : Nat), .int .i64 (ct : Nat), .slice av 248 pv] 89)).heap[w1.heap.size]? = _ := alloc_new _ _ _ rfl
    generalize w1.alloc (.cells #[.int .i64 (kk : Nat), .int .i64 (lv : Nat), .int .i64 (ct : Nat), .slice av 248 pv] 89) = wa at *
    have cp := cell_blk hBp
    have hl1 : w1.heap.size < wa.heap.size := lt_of_block hBp
    have hl0 : w.heap.size < wa.heap.size := by omega
    have cl := cell_blk ((hbp.block _ hlt).trans HB1.out)
    have fz := free_blk ((hbp.block _ hlt).trans HB1.out)
    have HRA := Lib.hid (HR1.out.below hbp)
    go_wp2_with (first
      | (go_at_call 65; refine (refget_any _ _ _ BD _ _ _ HRA.out (by omega)).mono ?_; rintro e w2 ⟨rfl, rfl⟩)
      | (go_at_call 66; refine (rnoughts_any _ _ _ BD 34 _ (HRA.out.below ((Below.refl _ _).alloc (Nat.le_refl _) _)) (by omega)).mono ?_; rintro e w2 ⟨rfl, rfl⟩))
    have hbw := below_then hb hbp hb.size
    generalize hW2 : World.alloc _ _ = W2
    have hb2 : Below w.heap.size w W2 := by rw [← hW2]; exact set8 hbw _ _ _ _ _ _ _ _ _ hbw.size
    have cl2 := cell_blk (show W2.heap[w.heap.size]? = _ by rw [← hW2]; exact alloc_old (blk8 ((hbp.block _ hlt).trans HB1.out) _ _ _ _ _ _ _ _) _)
    exact bodyPost_ret (v := .tuple #[zsup, .int .i64 4]) (by simp [results, Tryz.results46, zsup, go_sem, cl2]) rfl ⟨rfl, hb2⟩
  rcases d2 : ((lv : Int) != 0) with _ | _
  case true =>
    have hx := HBAD.out (by rintro ⟨-, h, -⟩; simp [h] at d2)
    rw [hx.1, hx.2]
    unfold supV P.Sup.zero
    simp only
    clear hx
    go_enter Tryz.func46, Tryz.ntmps46
    go_wp2_with fail
    refine (HO.out _ (HR.out.below ((Below.refl _ w).alloc (Nat.le_refl _) _))).mono ?_
    rintro e w1 ⟨v, rfl, hown, hb1⟩
    have hb := below_alloc1 hb1
    have hB1 := made_below hb1
    have hlt : w.heap.size < w1.heap.size := lt_of_block hB1
    obtain ⟨av, pv, hv, hr1, -, -, -⟩ := hown.form
    rw [hBl] at hv hr1
    subst hv
    have HR1 := Lib.hid hr1
    have HB1 := Lib.hid hB1
    clear hown hb1 hB1 hr1
    go_wp2_with fail
    have hbp : Below w1.heap.size w1 (w1.alloc (.cells #[.int .i64 (kk : Nat), .int .i64 (lv : Nat), .int .i64 (ct : Nat), .slice av 248 pv] 89)) := (Below.refl _ w1).alloc (Nat.le_refl _) _
    have hBp : (w1.alloc (.cells #[.int .i64 (kk : Nat), .int .i64 (lv : Nat), .int .i64 (ct : Nat), .slice av 248 pv] 89)).heap[w1.heap.size]? = _ := alloc_new _ _ _ rfl
    generalize w1.alloc (.cells #[.int .i64 (kk : Nat), .int .i64 (lv : Nat), .int .i64 (ct : Nat), .slice av 248 pv] 89) = wa at *
    have cp := cell_blk hBp
    have hl1 : w1.heap.size < wa.heap.size := lt_of_block hBp
    have hl0 : w.heap.size < wa.heap.size := by omega
    have cl := cell_blk ((hbp.block _ hlt).trans HB1.out)
    have fz := free_blk ((hbp.block _ hlt).trans HB1.out)
    have HRA := Lib.hid (HR1.out.below hbp)
    go_wp2_with (first
      | (go_at_call 65; refine (refget_any _ _ _ BD _ _ _ HRA.out (by omega)).mono ?_; rintro e w2 ⟨rfl, rfl⟩)
      | (go_at_call 66; refine (rnoughts_any _ _ _ BD 34 _ (HRA.out.below ((Below.refl _ _).alloc (Nat.le_refl _) _)) (by omega)).mono ?_; rintro e w2 ⟨rfl, rfl⟩))
    have hbw := below_then hb hbp hb.size
    generalize hW2 : World.alloc _ _ = W2
    have hb2 : Below w.heap.size w W2 := by rw [← hW2]; exact set8 hbw _ _ _ _ _ _ _ _ _ hbw.size
    have cl2 := cell_blk (show W2.heap[w.heap.size]? = _ by rw [← hW2]; exact alloc_old (blk8 ((hbp.block _ hlt).trans HB1.out) _ _ _ _ _ _ _ _) _)
    exact bodyPost_ret (v := .tuple #[zsup, .int .i64 4]) (by simp [results, Tryz.results46, zsup, go_sem, cl2]) rfl ⟨rfl, hb2⟩
  rcases d3 : ((ct : Int) != 0) with _ | _
  case true =>
    have hx := HBAD.out (by rintro ⟨-, -, h, -⟩; simp [h] at d3)
    rw [hx.1, hx.2]
    unfold supV P.Sup.zero
    simp only
    clear hx
    go_enter Tryz.func46, Tryz.ntmps46
    go_wp2_with fail
    refine (HO.out _ (HR.out.below ((Below.refl _ w).alloc (Nat.le_refl _) _))).mono ?_
    rintro e w1 ⟨v, rfl, hown, hb1⟩
    have hb := below_alloc1 hb1
    have hB1 := made_below hb1
    have hlt : w.heap.size < w1.heap.size := lt_of_block hB1
    obtain ⟨av, pv, hv, hr1, -, -, -⟩ := hown.form
    rw [hBl] at hv hr1
    subst hv
    have HR1 := Lib.hid hr1
    have HB1 := Lib.hid hB1
    clear hown hb1 hB1 hr1
    go_wp2_with fail
    have hbp : Below w1.heap.size w1 (w1.alloc (.cells #[.int .i64 (kk : Nat), .int .i64 (lv : Nat), .int .i64 (ct : Nat), .slice av 248 pv] 89)) := (Below.refl _ w1).alloc (Nat.le_refl _) _
    have hBp : (w1.alloc (.cells #[.int .i64 (kk : Nat), .int .i64 (lv : Nat), .int .i64 (ct : Nat), .slice av 248 pv] 89)).heap[w1.heap.size]? = _ := alloc_new _ _ _ rfl
    generalize w1.alloc (.cells #[.int .i64 (kk : Nat), .int .i64 (lv : Nat), .int .i64 (ct : Nat), .slice av 248 pv] 89) = wa at *
    have cp := cell_blk hBp
    have hl1 : w1.heap.size < wa.heap.size := lt_of_block hBp
    have hl0 : w.heap.size < wa.heap.size := by omega
    have cl := cell_blk ((hbp.block _ hlt).trans HB1.out)
    have fz := free_blk ((hbp.block _ hlt).trans HB1.out)
    have HRA := Lib.hid (HR1.out.below hbp)
    go_wp2_with (first
      | (go_at_call 65; refine (refget_any _ _ _ BD _ _ _ HRA.out (by omega)).mono ?_; rintro e w2 ⟨rfl, rfl⟩)
      | (go_at_call 66; refine (rnoughts_any _ _ _ BD 34 _ (HRA.out.below ((Below.refl _ _).alloc (Nat.le_refl _) _)) (by omega)).mono ?_; rintro e w2 ⟨rfl, rfl⟩))
    have hbw := below_then hb hbp hb.size
    generalize hW2 : World.alloc _ _ = W2
    have hb2 : Below w.heap.size w W2 := by rw [← hW2]; exact set8 hbw _ _ _ _ _ _ _ _ _ hbw.size
    have cl2 := cell_blk (show W2.heap[w.heap.size]? = _ by rw [← hW2]; exact alloc_old (blk8 ((hbp.block _ hlt).trans HB1.out) _ _ _ _ _ _ _ _) _)
    exact bodyPost_ret (v := .tuple #[zsup, .int .i64 4]) (by simp [results, Tryz.results46, zsup, go_sem, cl2]) rfl ⟨rfl, hb2⟩
  rcases v4 : nought (BD.drop 34) with _ | _
  case false =>
    have hx := HBAD.out (by rintro ⟨-, -, -, h, -⟩; unfold nought at v4; rw [h] at v4; cases v4)
    rw [hx.1, hx.2]
    unfold supV P.Sup.zero
    simp only
    clear hx
    go_enter Tryz.func46, Tryz.ntmps46
    go_wp2_with fail
    refine (HO.out _ (HR.out.below ((Below.refl _ w).alloc (Nat.le_refl _) _))).mono ?_
    rintro e w1 ⟨v, rfl, hown, hb1⟩
    have hb := below_alloc1 hb1
    have hB1 := made_below hb1
    have hlt : w.heap.size < w1.heap.size := lt_of_block hB1
    obtain ⟨av, pv, hv, hr1, -, -, -⟩ := hown.form
    rw [hBl] at hv hr1
    subst hv
    have HR1 := Lib.hid hr1
    have HB1 := Lib.hid hB1
    clear hown hb1 hB1 hr1
    go_wp2_with fail
    have hbp : Below w1.heap.size w1 (w1.alloc (.cells #[.int .i64 (kk : Nat), .int .i64 (lv : Nat), .int .i64 (ct : Nat), .slice av 248 pv] 89)) := (Below.refl _ w1).alloc (Nat.le_refl _) _
    have hBp : (w1.alloc (.cells #[.int .i64 (kk : Nat), .int .i64 (lv : Nat), .int .i64 (ct : Nat), .slice av 248 pv] 89)).heap[w1.heap.size]? = _ := alloc_new _ _ _ rfl
    generalize w1.alloc (.cells #[.int .i64 (kk : Nat), .int .i64 (lv : Nat), .int .i64 (ct : Nat), .slice av 248 pv] 89) = wa at *
    have cp := cell_blk hBp
    have hl1 : w1.heap.size < wa.heap.size := lt_of_block hBp
    have hl0 : w.heap.size < wa.heap.size := by omega
    have cl := cell_blk ((hbp.block _ hlt).trans HB1.out)
    have fz := free_blk ((hbp.block _ hlt).trans HB1.out)
    have HRA := Lib.hid (HR1.out.below hbp)
    go_wp2_with (first
      | (go_at_call 65; refine (refget_any _ _ _ BD _ _ _ HRA.out (by omega)).mono ?_; rintro e w2 ⟨rfl, rfl⟩)
      | (go_at_call 66; refine (rnoughts_any _ _ _ BD 34 _ (HRA.out.below ((Below.refl _ _).alloc (Nat.le_refl _) _)) (by omega)).mono ?_; rw [v4]; rintro e w2 ⟨rfl, rfl⟩))
    have hbw := below_then hb hbp hb.size
    generalize hW2 : World.alloc _ _ = W2
    have hb2 : Below w.heap.size w W2 := by rw [← hW2]; exact set8 hbw _ _ _ _ _ _ _ _ _ hbw.size
    have cl2 := cell_blk (show W2.heap[w.heap.size]? = _ by rw [← hW2]; exact alloc_old (blk8 ((hbp.block _ hlt).trans HB1.out) _ _ _ _ _ _ _ _) _)
    exact bodyPost_ret (v := .tuple #[zsup, .int .i64 4]) (by simp [results, Tryz.results46, zsup, go_sem, cl2]) rfl ⟨rfl, hb2⟩
  rcases (P.dec BD).chk_cases with ⟨-, v5⟩ | ⟨-, v5⟩
  case inr =>
    have hx := HBAD.out (by rintro ⟨-, -, -, -, h⟩; omega)
    rw [hx.1, hx.2]
    unfold supV P.Sup.zero
    simp only
    clear hx
    unfold P.dec at v5
    go_enter Tryz.func46, Tryz.ntmps46
    go_wp2_with fail
    refine (HO.out _ (HR.out.below ((Below.refl _ w).alloc (Nat.le_refl _) _))).mono ?_
    rintro e w1 ⟨v, rfl, hown, hb1⟩
    have hb := below_alloc1 hb1
    have hB1 := made_below hb1
    have hlt : w.heap.size < w1.heap.size := lt_of_block hB1
    obtain ⟨av, pv, hv, hr1, -, -, -⟩ := hown.form
    rw [hBl] at hv hr1
    subst hv
    have HR1 := Lib.hid hr1
    have HB1 := Lib.hid hB1
    clear hown hb1 hB1 hr1
    go_wp2_with fail
    have hbp : Below w1.heap.size w1 (w1.alloc (.cells #[.int .i64 (kk : Nat), .int .i64 (lv : Nat), .int .i64 (ct : Nat), .slice av 248 pv] 89)) := (Below.refl _ w1).alloc (Nat.le_refl _) _
    have hBp : (w1.alloc (.cells #[.int .i64 (kk : Nat), .int .i64 (lv : Nat), .int .i64 (ct : Nat), .slice av 248 pv] 89)).heap[w1.heap.size]? = _ := alloc_new _ _ _ rfl
    generalize w1.alloc (.cells #[.int .i64 (kk : Nat), .int .i64 (lv : Nat), .int .i64 (ct : Nat), .slice av 248 pv] 89) = wa at *
    have cp := cell_blk hBp
    have hl1 : w1.heap.size < wa.heap.size := lt_of_block hBp
    have hl0 : w.heap.size < wa.heap.size := by omega
    have cl := cell_blk ((hbp.block _ hlt).trans HB1.out)
    have fz := free_blk ((hbp.block _ hlt).trans HB1.out)
    have HRA := Lib.hid (HR1.out.below hbp)
    go_wp2_with (first
      | (go_at_call 65; refine (refget_any _ _ _ BD _ _ _ HRA.out (by omega)).mono ?_; rintro e w2 ⟨rfl, rfl⟩)
      | (go_at_call 66; refine (rnoughts_any _ _ _ BD 34 _ (HRA.out.below ((Below.refl _ _).alloc (Nat.le_refl _) _)) (by omega)).mono ?_; rw [v4]; rintro e w2 ⟨rfl, rfl⟩))
    have hbq : Below wa.heap.size wa (wa.alloc (.cells #[.int .i64 (P.get BD 0 8).1, .int .i64 (P.get BD 8 4).1, .int .i64 (P.get BD 12 4).1, .int .i64 (P.get BD 16 2).1, .int .i64 (P.get BD 18 4).1, .int .i64 (P.get BD 22 4).1, .int .i64 (P.get BD 26 4).1, .int .i64 (P.get BD 30 4).1] 25)) := (Below.refl _ wa).alloc (Nat.le_refl _) _
    have hBq : (wa.alloc (.cells #[.int .i64 (P.get BD 0 8).1, .int .i64 (P.get BD 8 4).1, .int .i64 (P.get BD 12 4).1, .int .i64 (P.get BD 16 2).1, .int .i64 (P.get BD 18 4).1, .int .i64 (P.get BD 22 4).1, .int .i64 (P.get BD 26 4).1, .int .i64 (P.get BD 30 4).1] 25)).heap[wa.heap.size]? = _ := alloc_new _ _ _ rfl
    generalize wa.alloc (.cells #[.int .i64 (P.get BD 0 8).1, .int .i64 (P.get BD 8 4).1, .int .i64 (P.get BD 12 4).1, .int .i64 (P.get BD 16 2).1, .int .i64 (P.get BD 18 4).1, .int .i64 (P.get BD 22 4).1, .int .i64 (P.get BD 26 4).1, .int .i64 (P.get BD 30 4).1] 25) = wq at *
    refine (HC.out _).mono ?_
    rintro e w3 ⟨rfl, hb3⟩
    rw [v5]
    have hq0 : w.heap.size < wq.heap.size := by have := hbq.size; omega
    have hB3 := (hb3.block _ hq0).trans ((hbq.block _ hl0).trans ((hbp.block _ hlt).trans HB1.out))
    have hB4 := (hb3.block _ (lt_of_block hBq)).trans hBq
    have cl3 := cell_blk hB3
    have fz3 := free_blk hB3
    have cl4 := cell_blk hB4
    have hbw := below_then hb hbp hb.size
    have hbw2 := below_then hbw hbq hbw.size
    have hbw3 := below_then hbw2 hb3 hbw2.size
    have hne : wa.heap.size ≠ w.heap.size := by omega
    have HB3 := Lib.hid hB3
    clear cl fz cp hB3 hB4 hBq hBp
    go_wp2
    generalize hW2 : World.setCell _ ⟨w.heap.size, 7, none⟩ _ = W2
    have hb2 : Below w.heap.size w W2 := by rw [← hW2]; exact set8' hbw3 _ _ _ _ _ _ _ _
    have cl2 := cell_blk (show W2.heap[w.heap.size]? = _ by rw [← hW2]; exact blk8 HB3.out _ _ _ _ _ _ _ _)
    exact bodyPost_ret (v := .tuple #[zsup, .int .i64 4]) (by simp [results, Tryz.results46, zsup, go_sem, cl2]) rfl ⟨rfl, hb2⟩
  case inl =>
    have hx := HGOOD.out ⟨by have h := d1; simp at h; omega, by have h := d2; simp at h; omega, by have h := d3; simp at h; omega, v4, v5⟩
    rw [hx.1, hx.2]
    unfold supV P.dec
    simp only
    clear hx
    unfold P.dec at v5
    go_enter Tryz.func46, Tryz.ntmps46
    go_wp2_with fail
    refine (HO.out _ (HR.out.below ((Below.refl _ w).alloc (Nat.le_refl _) _))).mono ?_
    rintro e w1 ⟨v, rfl, hown, hb1⟩
    have hb := below_alloc1 hb1
    have hB1 := made_below hb1
    have hlt : w.heap.size < w1.heap.size := lt_of_block hB1
    obtain ⟨av, pv, hv, hr1, -, -, -⟩ := hown.form
    rw [hBl] at hv hr1
    subst hv
    have HR1 := Lib.hid hr1
    have HB1 := Lib.hid hB1
    clear hown hb1 hB1 hr1
    go_wp2_with fail
    have hbp : Below w1.heap.size w1 (w1.alloc (.cells #[.int .i64 (kk : Nat), .int .i64 (lv : Nat), .int .i64 (ct : Nat), .slice av 248 pv] 89)) := (Below.refl _ w1).alloc (Nat.le_refl _) _
    have hBp : (w1.alloc (.cells #[.int .i64 (kk : Nat), .int .i64 (lv : Nat), .int .i64 (ct : Nat), .slice av 248 pv] 89)).heap[w1.heap.size]? = _ := alloc_new _ _ _ rfl
    generalize w1.alloc (.cells #[.int .i64 (kk : Nat), .int .i64 (lv : Nat), .int .i64 (ct : Nat), .slice av 248 pv] 89) = wa at *
    have cp := cell_blk hBp
    have hl1 : w1.heap.size < wa.heap.size := lt_of_block hBp
    have hl0 : w.heap.size < wa.heap.size := by omega
    have cl := cell_blk ((hbp.block _ hlt).trans HB1.out)
    have fz := free_blk ((hbp.block _ hlt).trans HB1.out)
    have HRA := Lib.hid (HR1.out.below hbp)
    go_wp2_with (first
      | (go_at_call 65; refine (refget_any _ _ _ BD _ _ _ HRA.out (by omega)).mono ?_; rintro e w2 ⟨rfl, rfl⟩)
      | (go_at_call 66; refine (rnoughts_any _ _ _ BD 34 _ (HRA.out.below ((Below.refl _ _).alloc (Nat.le_refl _) _)) (by omega)).mono ?_; rw [v4]; rintro e w2 ⟨rfl, rfl⟩))
    have hbq : Below wa.heap.size wa (wa.alloc (.cells #[.int .i64 (P.get BD 0 8).1, .int .i64 (P.get BD 8 4).1, .int .i64 (P.get BD 12 4).1, .int .i64 (P.get BD 16 2).1, .int .i64 (P.get BD 18 4).1, .int .i64 (P.get BD 22 4).1, .int .i64 (P.get BD 26 4).1, .int .i64 (P.get BD 30 4).1] 25)) := (Below.refl _ wa).alloc (Nat.le_refl _) _
    have hBq : (wa.alloc (.cells #[.int .i64 (P.get BD 0 8).1, .int .i64 (P.get BD 8 4).1, .int .i64 (P.get BD 12 4).1, .int .i64 (P.get BD 16 2).1, .int .i64 (P.get BD 18 4).1, .int .i64 (P.get BD 22 4).1, .int .i64 (P.get BD 26 4).1, .int .i64 (P.get BD 30 4).1] 25)).heap[wa.heap.size]? = _ := alloc_new _ _ _ rfl
    generalize wa.alloc (.cells #[.int .i64 (P.get BD 0 8).1, .int .i64 (P.get BD 8 4).1, .int .i64 (P.get BD 12 4).1, .int .i64 (P.get BD 16 2).1, .int .i64 (P.get BD 18 4).1, .int .i64 (P.get BD 22 4).1, .int .i64 (P.get BD 26 4).1, .int .i64 (P.get BD 30 4).1] 25) = wq at *
    refine (HC.out _).mono ?_
    rintro e w3 ⟨rfl, hb3⟩
    rw [v5]
    have hq0 : w.heap.size < wq.heap.size := by have := hbq.size; omega
    have hB3 := (hb3.block _ hq0).trans ((hbq.block _ hl0).trans ((hbp.block _ hlt).trans HB1.out))
    have hB4 := (hb3.block _ (lt_of_block hBq)).trans hBq
    have cl3 := cell_blk hB3
    have fz3 := free_blk hB3
    have cl4 := cell_blk hB4
    have hbw := below_then hb hbp hb.size
    have hbw2 := below_then hbw hbq hbw.size
    have hbw3 := below_then hbw2 hb3 hbw2.size
    have hne : wa.heap.size ≠ w.heap.size := by omega
    have HB3 := Lib.hid hB3
    clear cl fz cp hB3 hB4 hBq hBp
    go_wp2
    generalize hW2 : World.setCell _ ⟨w.heap.size, 7, none⟩ _ = W2
    have hb2 : Below w.heap.size w W2 := by rw [← hW2]; exact set8' hbw3 _ _ _ _ _ _ _ _
    have cl2 := cell_blk (show W2.heap[w.heap.size]? = _ by rw [← hW2]; exact blk8 HB3.out _ _ _ _ _ _ _ _)
    exact bodyPost_ret (v := .tuple #[.agg #[.int .i64 (P.get BD 0 8).1, .int .i64 (P.get BD 8 4).1, .int .i64 (P.get BD 12 4).1, .int .i64 (P.get BD 16 2).1, .int .i64 (P.get BD 18 4).1, .int .i64 (P.get BD 22 4).1, .int .i64 (P.get BD 26 4).1, .int .i64 (P.get BD 30 4).1], .int .i64 0]) (by simp [results, Tryz.results46, zsup, go_sem, cl2]) rfl ⟨rfl, hb2⟩
end Go.Proofs.YtnjpaanjgbfbaaaGreat
