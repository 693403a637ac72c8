/- The device: Fuse. -/
import Derived.Test.YtocepcibcapfbaaGreatJ10
namespace Go.Proofs.YtocepcibcapfbaaGreat
set_option linter.unusedVariables false
set_option linter.unusedSimpArgs false
set_option linter.unusedSectionVars false
open Go.RowKit
variable [Inhabited AvT]

theorem dffuse_any (B d np : Nat) (x : P.Dv) (n : Int) (w : World) (h : DvIs B w d np x) (hn : -9223372036854775808 ≤ n ∧ n ≤ 9223372036854775807) :
    Calls Tryz.prog 25 #[.pointer (some ⟨d, 0, none⟩), .int .i64 n] w fun e w' => e = .returned (.tuple #[]) ∧ DvIs B w' d np (if x.dead = true then x else { x with fuse := max n (-1) }) ∧ Ty B devT w w' := by
  have HM := Lib.hid (fun w (h : DvIs B w d np x) => dfmade_any B d np x w h)
  have H := Lib.hid h
  have HN := Lib.hid hn
  obtain ⟨vl, gn, cn, vw, ao, no, co, fz, nw, lw, Cn, h1, h2, h3, h4, h5, h6, h7, h8, h9, h10, h11, h12, h13, h14⟩ := h
  have H1 := Lib.hid h1
  have HP := Lib.hid (And.intro h6 (And.intro h7 (And.intro h8 h12)))
  have g := cell_blk h1
  have f := free_blk h1
  unfold dvF at g
  rcases hd : x.dead with _ | _
  · rw [hd] at g
    have HD := Lib.hid hd
    clear h1 h2 h3 h4 h5 h6 h7 h8 h9 h10 h11 h12 h13 h14 hd hn
    go_enter Tryz.func25, Tryz.ntmps25
    go_wp2_with (go_at_call 63; refine (HM.out _ H.out).mono ?_; rintro e w1 ⟨rfl, rfl⟩)
    go_end0
    refine ⟨rfl, ?_⟩
    rw [← HD.out]
    exact DvIs.re (x' := { x with fuse := max n (-1) }) H.out H1.out (setCell_chg _ _ _ _) (by rw [blk_setCell H1.out]; rfl) ⟨rfl, rfl, rfl⟩ HP.out.1 HP.out.2.1 HP.out.2.2.1 ⟨Nat.le_refl _, HP.out.2.2.2⟩ rfl HN.out
  · rw [hd] at g
    clear h1 h2 h3 h4 h5 h6 h7 h8 h9 h10 h11 h12 h13 h14 hd hn
    go_enter Tryz.func25, Tryz.ntmps25
    go_wp2_with (go_at_call 63; refine (HM.out _ H.out).mono ?_; rintro e w1 ⟨rfl, rfl⟩)
    go_end0
    exact ⟨rfl, by simpa using H.out, Ty.refl _ _ _⟩
end Go.Proofs.YtocepcibcapfbaaGreat
