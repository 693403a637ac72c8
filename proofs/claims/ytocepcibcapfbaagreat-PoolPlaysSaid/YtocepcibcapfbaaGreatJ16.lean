/- The device: Image, Outcomes. -/
import Derived.Test.YtocepcibcapfbaaGreatJ15
namespace Go.Proofs.YtocepcibcapfbaaGreat
set_option linter.unusedVariables false
set_option linter.unusedSimpArgs false
set_option linter.unusedSectionVars false
open Go.RowKit
variable [Inhabited AvT]

theorem img_takeF (img : List UInt8) (np k : Nat) (hl : img.length = 256 * np) (hk : k < np) : img.take (256 * (k + 1)) = img.take (256 * k) ++ P.pg img k := by
  unfold P.pg
  rw [Nat.mul_add, Nat.mul_one, List.take_add]
set_option maxRecDepth 100000 in
set_option maxHeartbeats 1600000 in
theorem dfimage_any (B d np : Nat) (x : P.Dv) (w : World) (h : DvIs B w d np x) :
    Calls Tryz.prog 35 #[.pointer (some ⟨d, 0, none⟩)] w fun e w' => ∃ v, e = .returned v ∧ OB w' w.heap.size v x.img ∧ Below w.heap.size w w' := by
  have HM := Lib.hid (fun w (h : DvIs B w d np x) => dfmade_any B d np x w h)
  have hl := h.page
  have H := Lib.hid h
  obtain ⟨vl, gn, cn, vw, ao, no, co, fz, nw, lw, Cn, h1, -, -, h2, -, -, -, -, -, -, h11, -⟩ := h
  obtain ⟨img, himg⟩ : ∃ img, img = x.img := ⟨_, rfl⟩
  rw [← himg] at h2 hl ⊢
  have H1 := Lib.hid h1
  have H2 := Lib.hid h2
  have HL := Lib.hid hl
  have g := cell_blk h1
  unfold dvF at g
  have hnp : (np : Int) ≤ 4096 := by omega
  clear h1 h2 hl himg
  go_enter Tryz.func35, Tryz.ntmps35
  go_wp2_with (go_at_call 63; refine (HM.out _ H.out).mono ?_; rintro e w1 ⟨rfl, rfl⟩)
  clear g
  go_loopw [3, 13] (fun v i wr => ∃ k : Nat, k ≤ np ∧ i = .int .i64 k ∧ OB wr w.heap.size v (img.take (256 * k)) ∧ Below w.heap.size w wr) (fun _ i _ => np - (intOf i).toNat)
  case atStart => exact ⟨0, by omega, rfl, by simpa using OB.nil _ _, Below.refl _ _⟩
  case round =>
    obtain ⟨k, hk, rfl, hov, hbr⟩ := hrel
    have htl : (img.take (256 * k)).length = 256 * k := by rw [List.length_take, HL.out]; omega
    obtain ⟨av, cv, hv, -⟩ := hov.form
    rw [htl] at hv
    subst hv
    have HTT := Lib.hid htl
    clear htl
    have hq := (hbr.block _ (lt_of_block H1.out)).trans H1.out
    have g := cell_blk hq
    unfold dvF at g
    have HOV := Lib.hid hov
    have HBR := Lib.hid hbr
    by_cases hlt : k < np
    · have i1 : (k : Int) < (np : Int) := by omega
      have i0 : (0 : Int) ≤ (k : Int) := by omega
      have HPG := Lib.hid (RV.page (H2.out.below hbr) k hlt)
      have HTL := Lib.hid (show (img.take (256 * k)).length + 256 ≤ 140737488355328 by rw [List.length_take]; omega)
      have HTK := Lib.hid (img_takeF img np k HL.out hlt)
      have HBS := Lib.hid hbr.size
      clear hov hbr hq
      go_wp2_with (at_builtin; refine wpList_app _ rfl _ _ rfl w.heap.size _ _ rfl HOV.out _ _ _ _ rfl HPG.out HTL.out HBS.out ?_)
      intro v5 w5 ho5 hg5 hat5
      have hb5 := HOV.out.grown HBR.out HBS.out hg5
      rw [← HTK.out] at ho5
      obtain ⟨a5, e5, hv5, -⟩ := ho5.form
      subst hv5
      have HO5 := Lib.hid ho5
      have HB5 := Lib.hid hb5
      clear ho5 hg5 hat5 hb5 g
      go_wp2
      exact ⟨⟨k + 1, by omega, by go_num, HO5.out, HB5.out⟩, by simp [intOf]; omega⟩
    · obtain rfl : k = np := by omega
      have HFIN := Lib.hid (show ∃ v, Ending.returned (Value.slice av (256 * k) cv) = .returned v ∧ OB wr w.heap.size v img ∧ Below w.heap.size w wr from ⟨_, rfl, by
        have h := hov
        have e : img.take (256 * k) = img := List.take_of_length_le (by rw [HL.out]; exact Nat.le_refl _)
        rw [e] at h
        exact h, hbr⟩)
      clear hov hbr hq
      go_wp2
      go_ret
      exact HFIN.out
set_option maxRecDepth 100000 in
set_option maxHeartbeats 1600000 in
theorem dfoutc_any (B d np : Nat) (x : P.Dv) (l : List UInt8) (a : Option Addr) (n c : Nat) (w : World) (h : DvIs B w d np x) (hBw : B ≤ w.heap.size) (hr : Rd w a n l) (hn : x.outs.length + n ≤ 1000000) :
    Calls Tryz.prog 24 #[.pointer (some ⟨d, 0, none⟩), .slice a n c] w fun e w' => e = .returned (.tuple #[]) ∧ DvIs B w' d np { x with outs := x.outs ++ l } ∧ Ty B devT w w' := by
  have HM := Lib.hid (fun w (h : DvIs B w d np x) => dfmade_any B d np x w h)
  have H := Lib.hid h
  have HD := Lib.hid h.lt
  obtain ⟨vl, gn, cn, vw, ao, no, co, fz, nw, lw, Cn, h1, -, -, -, -, h5, h7, -, -, -, h11, h12, h13, h14⟩ := h
  obtain ⟨outs, houts⟩ : ∃ outs, outs = x.outs := ⟨_, rfl⟩
  have HOUTS := Lib.hid houts
  rw [← houts] at h5 hn
  have H1 := Lib.hid h1
  have H5 := Lib.hid h5
  have HR := Lib.hid hr
  have g := cell_blk h1
  unfold dvF at g
  have hno : no = outs.length := h5.1.symm
  have HNO := Lib.hid hno
  have HN := Lib.hid hn
  have HALL := Lib.hid (show x.ops ≤ 1000000 ∧ x.fuse = max fz (-1) ∧ (-9223372036854775808 ≤ fz ∧ fz ≤ 9223372036854775807) from ⟨h12, h13, h14⟩)
  obtain ⟨dd, hdd⟩ : ∃ dd, dd = x.dead := ⟨_, rfl⟩
  rw [← hdd] at g
  have HDD := Lib.hid hdd
  clear h1 h5 hr h7 h11 h12 h13 h14 hno hn houts hdd
  go_enter Tryz.func24, Tryz.ntmps24
  go_wp2_with (first
    | (go_at_call 63; refine (HM.out _ H.out).mono ?_; rintro e w1 ⟨rfl, rfl⟩)
    | (at_builtin; refine wpList_app _ rfl _ _ rfl w.heap.size (.slice none 0 0) [] rfl (OB.nil _ _) _ _ _ _ rfl H5.out (by have := HN.out; have := HNO.out; simp; omega) (Nat.le_refl _) ?_))
  intro v5 w5 ho5 hg5 hat5
  have hb5 : Below w.heap.size w w5 := (OB.nil w w.heap.size).grown (Below.refl _ _) (Nat.le_refl _) hg5
  obtain ⟨a5, e5, hv5, -⟩ := ho5.form
  subst hv5
  have HO5 := Lib.hid ho5
  have HB5 := Lib.hid hb5
  have HR5 := Lib.hid (HR.out.below hb5)
  have HS5 := Lib.hid hb5.size
  have HNN := Lib.hid (show outs.length + n ≤ 140737488355328 by have := HN.out; omega)
  have hk5 := (hb5.block _ HD.out).trans H1.out
  have g5 := cell_blk hk5
  have f5 := free_blk hk5
  unfold dvF at g5
  rw [← HDD.out] at g5
  have K5 := Lib.hid hk5
  clear ho5 hg5 hat5 hb5 hk5 g
  go_wp2_with (at_builtin; refine wpList_app _ rfl _ _ rfl w.heap.size _ outs rfl HO5.out _ _ _ _ rfl HR5.out HNN.out HS5.out ?_)
  intro v6 w6 ho6 hg6 hat6
  have hb6 := HO5.out.grown HB5.out HS5.out hg6
  obtain ⟨a6, e6, hv6, hr6, hc6, ha6, -⟩ := ho6.form
  have hcm : e6 ≤ maxLen := by
    rcases ho6.2 with ⟨e, -⟩ | ⟨g', cap', cur, e, -, -, -, hm, -⟩
    · rw [hv6] at e; injection e with _ _ e; unfold maxLen; omega
    · rw [hv6] at e; injection e with _ _ e; rw [e]; exact hm
  subst hv6
  have hk6 := (hb6.block _ HD.out).trans H1.out
  have g6 := cell_blk hk6
  have f6 := free_blk hk6
  unfold dvF at g6
  rw [← HDD.out] at g6
  have hl6 : (outs ++ l).length = outs.length + n := by rw [List.length_append, HR.out.1]
  rw [hl6] at hr6 hc6 ha6 ⊢
  have hsc := setCell_chg w6 d 3 (.slice a6 (outs.length + n) e6)
  have hcw : Chg (fun j => j = d) w (w6.setCell ⟨d, 3, none⟩ (.slice a6 (outs.length + n) e6)) := (Chg.of_below hb6 _).trans hsc
  have hD6 := H.out.below hb6
  have htg : ∀ p, a6 = some p → tagA w6 p.block = some (some 5) := fun p e => (OV.tag (t := 5) (s := 1) (n := (outs ++ l).length) (l := bvs (outs ++ l)) ho6 p.block (by rw [hl6]; exact (ha6 p e).2.2)).1
  have HFIN := Lib.hid (show DvIs B (w6.setCell ⟨d, 3, none⟩ (.slice a6 (outs.length + n) e6)) d np { x with outs := x.outs ++ l } ∧ Ty B devT w (w6.setCell ⟨d, 3, none⟩ (.slice a6 (outs.length + n) e6)) from by
    have hre := DvIs.re (x' := { x with outs := x.outs ++ l }) hD6 hk6 hsc (ao' := a6) (no' := outs.length + n) (co' := e6) (fz' := fz) (by rw [blk_setCell hk6]; rfl) ⟨rfl, rfl, rfl⟩ (by rw [← HOUTS.out]; exact hr6) ⟨hc6, hcm⟩ ⟨hD6.avs, fun _ p e => ⟨htg p e, fun hk => by have h1 := H.out.avs _ hk; have h2 := (ha6 p e).1; omega⟩⟩ ⟨Nat.le_refl _, HALL.out.1⟩ HALL.out.2.1 HALL.out.2.2
    exact ⟨hre.1, (Ty.of_below hb6).trans hre.2⟩)
  clear ho6 hg6 hat6 hb6 hk6 hr6 ha6 hl6 hsc g5 f5
  go_wp2
  go_end0
  exact ⟨rfl, HFIN.out⟩
end Go.Proofs.YtocepcibcapfbaaGreat
