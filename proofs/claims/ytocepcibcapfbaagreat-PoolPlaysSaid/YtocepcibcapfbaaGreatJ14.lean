/- The device: Read, whatever befalls it. -/
import Derived.Test.YtocepcibcapfbaaGreatJ13
namespace Go.Proofs.YtocepcibcapfbaaGreat
set_option linter.unusedVariables false
set_option linter.unusedSimpArgs false
set_option linter.unusedSectionVars false
open Go.RowKit
variable [Inhabited AvT]

theorem pgF_length (img : List UInt8) (np n : Nat) (hl : img.length = 256 * np) (h : n < np) : (P.pgD img n).length = 256 := P.pgD_length img np n hl h
theorem RV.pageF {w : World} {gn np : Nat} {img : List UInt8} (h : RV w (some ⟨gn, 0, none⟩) np 256 (bvs img)) (n : Nat) (hn : n < np) : Rd w (some ⟨gn, n * 256, none⟩) 256 (P.pgD img n) := RV.page h n hn
/-- What Read's closure leaves. -/
def Rd1 (po : Nat) (c : Nat) (pg : List UInt8) (wx : World) (e : Ending) (w1 : World) : Prop :=
  (c = 1 ∧ e = .returned (.int .i64 7) ∧ wx = w1) ∨ (c ≠ 1 ∧ ∃ v w2, e = .returned (.int .i64 0) ∧ w1 = w2.setCell ⟨po, 0, none⟩ v ∧ OB w2 wx.heap.size v pg ∧ Below wx.heap.size wx w2)
set_option maxRecDepth 100000 in
set_option maxHeartbeats 1600000 in
theorem read1_lost (pd pp po : Addr) (w : World) : Calls Tryz.prog 71 #[.int .u8 1, .pointer (some pd), .pointer (some pp), .pointer (some po)] w fun e w' => e = .returned (.int .i64 7) ∧ w = w' := by
  go_enter Tryz.func71, Tryz.ntmps71
  go_wp2
  go_ret
  exact ⟨rfl, rfl⟩
set_option maxRecDepth 100000 in
set_option maxHeartbeats 1600000 in
theorem read1F (c : Nat) (hc : c < 3) (pd pp po : Nat) (n : Nat) (B d np : Nat) (x : P.Dv) (w : World) (h : DvIs B w d np x) (hn : n < np)
    (h1 : w.cell? ⟨pd, 0, none⟩ = some (.pointer (some ⟨d, 0, none⟩))) (h2 : w.cell? ⟨pp, 0, none⟩ = some (.int .i64 (n : Int))) (h3 : w.heap[po]? = some (.cells #[.slice none 0 0] 38 (0, 0))) (hne : po ≠ d ∧ po ≠ pd ∧ po ≠ pp) :
    Calls Tryz.prog 71 #[.int .u8 (c : Int), .pointer (some ⟨pd, 0, none⟩), .pointer (some ⟨pp, 0, none⟩), .pointer (some ⟨po, 0, none⟩)] w (Rd1 po c (P.pgD x.img n) w) := by
  by_cases h1c : c = 1
  · subst h1c
    refine (read1_lost _ _ _ w).mono ?_
    rintro e w' ⟨rfl, rfl⟩
    exact .inl ⟨rfl, rfl, rfl⟩
  have hl := h.page
  have hpl := pgF_length x.img np n hl hn
  obtain ⟨vl, gn, cn, vw, ao, no, co, fz, nw, lw, Cn, d1, -, -, d2, d3, -, -, -, -, -, d11, -⟩ := h
  have hrd := RV.pageF d2 n hn
  have hB : Below w.heap.size w w.drew := ⟨rfl, rfl, rfl, Nat.le_refl _, fun _ _ => rfl⟩
  have hS : ∀ w', Chg (fun k => k = po) w w' → w'.cell? ⟨pd, 0, none⟩ = some (.pointer (some ⟨d, 0, none⟩)) ∧ w'.cell? ⟨pp, 0, none⟩ = some (.int .i64 (n : Int)) ∧ w'.cell? ⟨d, 1, none⟩ = some (.slice (some ⟨gn, 0, none⟩) np cn) := fun w' hb =>
    ⟨(World.cell?_of_block (w := w) (a := ⟨pd, 0, none⟩) (hb.block pd (lt_of_cell h1) (Ne.symm hne.2.1))).trans h1, (World.cell?_of_block (w := w) (a := ⟨pp, 0, none⟩) (hb.block pp (lt_of_cell h2) (Ne.symm hne.2.2))).trans h2, (World.cell?_of_block (w := w) (a := ⟨d, 1, none⟩) (hb.block d (lt_of_block d1) (Ne.symm hne.1))).trans (by rw [cell_blk d1]; rfl)⟩
  have HS := Lib.hid hS
  have HRD := Lib.hid hrd
  have HPL := Lib.hid hpl
  have H3 := Lib.hid h3
  have i0 : (0 : Int) ≤ (n : Int) := by omega
  have i1 : (n : Int) < (np : Int) := by omega
  have hmax : (np : Int) ≤ 4096 := by omega
  have hc1 : ((c : Int) == 1) = false := by simp; omega
  have H1C := Lib.hid h1c
  generalize P.pgD x.img n = PG at *
  clear d2 hrd hS hpl hl h1 h2 d1 h3 h1c d3 d11
  go_enter Tryz.func71, Tryz.ntmps71
  go_wp2
  go_region_held3 (fun w' => w'.cell? ⟨pd, 0, none⟩ = some (.pointer (some ⟨d, 0, none⟩)) ∧ w'.cell? ⟨pp, 0, none⟩ = some (.int .i64 (n : Int)) ∧ w'.cell? ⟨d, 1, none⟩ = some (.slice (some ⟨gn, 0, none⟩) np cn))
    (first
      | exact HS.out _ (Chg.of_below hB _)
      | exact HS.out _ (Chg.of_below hb3 _)
      | exact HS.out _ ((Chg.of_below hb3 (fun k => k = po)).setCell _ _ (.inr rfl)))
    ((refine step_app _ rfl _ _ rfl w.heap.size (.slice none 0 0) [] rfl (OB.nil _ _) _ _ _ PG rfl (by exact HRD.out.drew) (by simp) (Nat.le_refl _) ?_; intro v3 w3 hown3 hg3 hat3; have hb3 : Below w.heap.size w w3 := below_of_drew ((OB.nil _ _).grown (Below.refl _ _) (Nat.le_refl _) hg3); obtain ⟨a3, cp3, hv3, -, -, -, -⟩ := hown3.form; subst hv3; have hk3 := (hb3.block po (lt_of_block H3.out)).trans H3.out; have gx3 := cell_blk hk3; have fx3 := free_blk hk3; clear hk3))
  all_goals
    go_wp2
    go_ret
    exact .inr ⟨H1C.out, _, _, rfl, rfl, hown3, hb3⟩
end Go.Proofs.YtocepcibcapfbaaGreat
