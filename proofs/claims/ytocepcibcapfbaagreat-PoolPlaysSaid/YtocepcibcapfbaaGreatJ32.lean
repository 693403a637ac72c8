/- The pool: what a call tries; Unpin, Forget. -/
import Derived.Test.YtocepcibcapfbaaGreatJ31
namespace Go.Proofs.YtocepcibcapfbaaGreat
set_option linter.unusedVariables false
set_option linter.unusedSimpArgs false
set_option linter.unusedSectionVars false
open Go.RowKit
variable [Inhabited AvT]
variable {B o c : Nat} {w : World} {p d np N : Nat} {x : P.Po}

/-- How a deed ends: the pool x', the error E. -/
def DoE (B o c : Nat) (p d np N : Nat) (x' : P.Po) (E : Int) (w : World) (e : Ending) (w' : World) : Prop :=
  PoV B o c w p d np N x' w' ∧ ((E = 0 ∧ e = .returned (.tuple #[])) ∨ (E ≠ 0 ∧ e = panE E))
/-- How the call around it ends. -/
def OpE (B o c : Nat) (p d np N : Nat) (x' : P.Po) (E : Int) (w : World) (e : Ending) (w' : World) : Prop := e = .returned (.int .i64 E) ∧ PoV B o c w p d np N x' w'
theorem errno_nopo : NoPo (fun t => t = some 26) := ⟨⟨by decide, by decide, by decide, by decide⟩, by decide, by decide, by decide, by decide⟩
theorem PoIs.ty {w' : World} (h : PoIs B o c w p d np N x) {C : Nat} {T : Option TypeId → Prop} (hw : Ty C T w w') (hT : NoPo T) : PoIs B o c w' p d np N x := ⟨h.1.ty hw hT, h.2⟩
/-- Behind it a block of the call's own was turned, of a kind that is none of the pool's. -/
theorem PoV.own {w1 w2 : World} {bb i : Nat} {u : Value} {t : TypeId} {C : Array Value} (h : PoV B o c w p d np N x w1) (hk : w1.heap[bb]? = some (.cells C t (0, 0))) (hbb : w.heap.size ≤ bb) (hT : NoPo (fun u => u = some t)) (h2 : w2 = w1.setCell ⟨bb, i, none⟩ u) : PoV B o c w p d np N x w2 := by
  obtain ⟨o', h1, h3, h4⟩ := h
  have ht : Ty bb (fun u => u = some t) w1 w2 := by
    rw [h2]
    exact (Ty.refl _ _ _).setCell _ _ (.inr ⟨Nat.le_refl _, _, tagA_cells hk, rfl⟩)
  refine ⟨o', h1, h3.ty ht hT, ⟨ht.os.trans h4.os, ht.tape.trans h4.tape, ht.output.trans h4.output, Nat.le_trans h4.size ht.size, fun k hk => (ht.tag k (Nat.lt_of_lt_of_le hk h4.size)).trans (h4.tag k hk), fun k hk hx hs => ?_⟩⟩
  rw [ht.block k (Nat.lt_of_lt_of_le hk h4.size) (fun hb => by omega)]
  exact h4.block k hk hx hs
theorem PoV.pre {w1 w2 : World} (hb : Below w.heap.size w w1) (h : PoV B o c w1 p d np N x w2) : PoV B o c w p d np N x w2 := PoV.then (.inl rfl) (Ty.of_below hb).x h
theorem tryop {x' : P.Po} {E : Int} {c' : Nat} (h : PoIs B o c w p d np N x) (fd : FuncId) (caps : Array Value) (hen : ∀ args w, (callFunc fd args).run Tryz.prog w = .ok (.enter fd args) w)
    (hdo : ∀ w1, Below w.heap.size w w1 → PoIs B o c w1 p d np N x → Calls Tryz.prog fd caps w1 (DoE B o c' p d np N x' E w1)) :
    Calls Tryz.prog 39 #[.pointer (some ⟨p, 0, none⟩), .func (.func fd) #[] caps] w (OpE B o c' p d np N x' E w) := by
  have hb : Below w.heap.size w (w.alloc (.cells #[.int .i64 0] 26)) := (Below.refl _ w).alloc (Nat.le_refl _) _
  refine (tries_any p fd caps (fun k w2 => k = E ∧ PoV B o c' w p d np N x' w2) w (fun W hW => by
    obtain ⟨⟨mb, n, F, vo, V, hs⟩, -⟩ := h.below hW
    exact pmade_any hs) hen ((hdo _ hb (h.below hb)).mono ?_)).mono ?_
  · rintro e w2 ⟨hV, he⟩
    refine ⟨?_, ?_⟩
    · obtain ⟨o', -, -, h4⟩ := hV
      exact h4.cells (alloc_new _ _ _ rfl) (fun e => by have := h.lt; omega) (.inr (by unfold poT devT; decide))
    · rcases he with ⟨rfl, rfl⟩ | ⟨h1, rfl⟩
      · exact .inl ⟨rfl, rfl, hV.pre hb⟩
      · exact .inr ⟨E, rfl, rfl, hV.pre hb⟩
  · rintro e w' ⟨k, w2, rfl, ⟨rfl, hV⟩, hk, rfl⟩
    exact ⟨rfl, hV.own hk (Nat.le_refl _) errno_nopo rfl⟩
/-- A frame's map, by another list. -/
theorem mns_map (l : List P.Fr) (u : P.Fr → P.Fr) (k : Nat) (hu : ∀ f, (u f).pg = f.pg) (hk : ∀ f, f.pg ≠ k → u f = f) (f f' : P.Fr) (hf : P.at? l k = some f) (hf' : u f = f') : (fun m => if m = k then some f' else P.at? l m) = P.at? (l.map u) := by
  funext m
  rw [P.at_map l u hu]
  by_cases e : m = k
  · rw [if_pos e, e, hf]
    simp [hf']
  · rw [if_neg e]
    rcases hm : P.at? l m with _ | g
    · rfl
    · have := (P.at_some hm).2
      simp [hk g (by omega)]
theorem unpg (n : Nat) : ∀ f : P.Fr, (if f.pg = n then { f with pins := f.pins - 1 } else f).pg = f.pg := by intro f; split <;> rfl
set_option maxRecDepth 100000 in
set_option maxHeartbeats 3200000 in
theorem unpin1_any (h : PoIs B o c w p d np N x) (n : Int) (hn : inI n) (bp bn : Nat) (hbp : w.cell? ⟨bp, 0, none⟩ = some (.pointer (some ⟨p, 0, none⟩))) (hbn : w.cell? ⟨bn, 0, none⟩ = some (.int .i64 n)) :
    Calls Tryz.prog 52 #[.pointer (some ⟨bp, 0, none⟩), .pointer (some ⟨bn, 0, none⟩)] w (DoE B o c p d np N (x.unP n) (x.unE n) w) := by
  have hdr : Below w.heap.size w w.drew := below_of_drew (Below.refl _ _)
  have H := Lib.hid h
  have HDR := Lib.hid hdr
  obtain ⟨⟨mb, nn, F, vo, V, hs⟩, hok⟩ := h
  have HS := Lib.hid (hs.below hdr)
  have HOK := Lib.hid hok
  have g := cell_blk hs.pool
  unfold poolC at g
  by_cases hno : n < 0 ∨ P.at? x.l n.toNat = none
  · have hlk := (hs.below hdr).look0 n hn hno
    have he : x.unE n = 10 ∧ x.unP n = x := by
      have hp : P.pins? x.l n = 0 := by
        unfold P.pins?
        by_cases h0 : n < 0
        · rw [if_pos h0]
        · rw [if_neg h0, hno.resolve_left h0]
      unfold P.Po.unE P.Po.unP
      rw [hp]
      simp
    have HF := Lib.hid (show DoE B o c p d np N (x.unP n) (x.unE n) w (panE 10) w.drew from by
      rw [he.1, he.2]
      exact ⟨H.out.self hdr, .inr ⟨by decide, rfl⟩⟩)
    have hlk' : (Instr.lookup 67 (.map (some mb)) (.int .i64 n) false).run Tryz.prog { w with drawn := w.drawn + 1 } = .ok (.pointer none) { w with drawn := w.drawn + 1 } := hlk
    clear hs hok hdr hno hlk he hn
    go_enter Tryz.func52, Tryz.ntmps52
    go_wp2_with fail
    refine wp_region_still_tail 6 (by kernel_rfl) (by kernel_rfl) ?_
    simp only [List.take_succ_cons, List.take_zero, List.drop_succ_cons, List.drop_zero]
    iterate 5 still_step
    refine wpStill_val rfl _ (x_look rfl rfl rfl hlk') ?_
    refine wpStill_nil ?_
    change wpList _ _ _ _ _ w.drew
    clear hlk'
    go_wp2
    exact ⟨rfl, HF.out⟩
  · have h0 : 0 ≤ n := by rcases Int.lt_or_le n 0 with h | h; exact absurd (.inl h) hno; exact h
    obtain ⟨k, rfl⟩ : ∃ k : Nat, n = (k : Int) := ⟨n.toNat, by omega⟩
    rw [Int.toNat_natCast] at hno
    obtain ⟨f, hf⟩ : ∃ f, P.at? x.l k = some f := by
      rcases hq : P.at? x.l k with _ | f
      · exact absurd (.inr hq) hno
      · exact ⟨f, rfl⟩
    obtain ⟨hfp, ⟨a, m, cp, hfb, hrb, hBf, hbl⟩, hk, hpc⟩ := hs.fr k f hf
    have hlk : (Instr.lookup 67 (.map (some mb)) (.int .i64 (k : Int)) false).run Tryz.prog { w with drawn := w.drawn + 1 } = .ok (.pointer (some ⟨F k, 0, none⟩)) { w with drawn := w.drawn + 1 } := (hs.below hdr).look1 k hk f hf
    have gf := cell_blk hfb
    have ff := free_blk hfb
    unfold frC at gf
    have hpin : P.pins? x.l (k : Int) = f.pins := by
      unfold P.pins?
      rw [if_neg (by omega), Int.toNat_natCast, hf]
    have hc := hs.big.1
    by_cases hz : f.pins = 0
    · have he : x.unE (k : Int) = 10 ∧ x.unP (k : Int) = x := by unfold P.Po.unE P.Po.unP; rw [hpin, hz]; simp
      have HF := Lib.hid (show DoE B o c p d np N (x.unP (k : Int)) (x.unE (k : Int)) w (panE 10) w.drew from by
        rw [he.1, he.2]
        exact ⟨H.out.self hdr, .inr ⟨by decide, rfl⟩⟩)
      rw [hz] at gf
      clear hs hok hdr hno he hn hf hfb hrb hpin hpc hfp
      go_enter Tryz.func52, Tryz.ntmps52
      go_wp2_with fail
      refine wp_region_still_tail 6 (by kernel_rfl) (by kernel_rfl) ?_
      simp only [List.take_succ_cons, List.take_zero, List.drop_succ_cons, List.drop_zero]
      iterate 5 still_step
      refine wpStill_val rfl _ (x_look rfl rfl rfl hlk) ?_
      refine wpStill_nil ?_
      change wpList _ _ _ _ _ w.drew
      clear hlk
      go_wp2
      exact ⟨rfl, HF.out⟩
    · have he : x.unE (k : Int) = 0 ∧ x.unP (k : Int) = ⟨x.d, x.l.map fun f => if f.pg = k then { f with pins := f.pins - 1 } else f⟩ := by unfold P.Po.unE P.Po.unP; rw [hpin, if_pos (by omega), if_pos (by omega), Int.toNat_natCast]; exact ⟨rfl, rfl⟩
      have hok' := P.un_ok hok (k : Int)
      have HF := Lib.hid (show DoE B o c p d np N (x.unP (k : Int)) (x.unE (k : Int)) w (.returned (.tuple #[])) (w.drew.setCell ⟨F k, 2, none⟩ (.int .i64 ((f.pins : Int) - 1))) from by
        refine ⟨?_, .inl ⟨he.1, rfl⟩⟩
        have hb2 := (hs.below hdr).framed (f' := { f with pins := f.pins - 1 }) (i := 2) (u := .int .i64 ((f.pins : Int) - 1)) hf rfl hfp ⟨a, m, cp, by
          rw [blk_setCell (show w.drew.heap[F k]? = _ from hfb)]
          simp only [frC]
          congr 2
          rw [show ((f.pins : Int) - 1) = ((f.pins - 1 : Nat) : Int) by omega]
          rfl, (hrb.below hdr).ty ((Ty.refl (F k) (fun t => t = some 77) w.drew).setCell ⟨F k, 2, none⟩ (.int .i64 ((f.pins : Int) - 1)) (.inr ⟨Nat.le_refl _, _, tagA_cells (show w.drew.heap[F k]? = _ from hfb), rfl⟩)) (by decide), hBf, hbl⟩ (by show f.pins - 1 ≤ c; omega)
        rw [he.2] at hok' ⊢
        refine PoV.pre hdr (PoV.of ⟨o, .inl rfl, ⟨mb, nn, F, vo, V, hb2.1⟩, hb2.2.x⟩ (mns_map x.l _ k (unpg k) (fun g hg => if_neg hg) f _ hf (if_pos hfp)) ?_ rfl hok')
        rw [List.map_map]
        apply List.map_congr_left
        intro g _
        exact (unpg k g).symm)
      have i1 : ((f.pins : Int) == 0) = false := by simp; exact hz
      have i2 : (1 : Int) ≤ (f.pins : Int) := by omega
      have i3 : (f.pins : Int) ≤ 1000000 := by omega
      clear hs hok hdr hno he hn hf hfb hrb hpin hpc hfp hok' hz
      go_enter Tryz.func52, Tryz.ntmps52
      go_wp2_with fail
      refine wp_region_still_tail 6 (by kernel_rfl) (by kernel_rfl) ?_
      simp only [List.take_succ_cons, List.take_zero, List.drop_succ_cons, List.drop_zero]
      iterate 5 still_step
      refine wpStill_val rfl _ (x_look rfl rfl rfl hlk) ?_
      refine wpStill_nil ?_
      change wpList _ _ _ _ _ w.drew
      clear hlk
      go_wp2
      go_end0
      exact HF.out
end Go.Proofs.YtocepcibcapfbaaGreat
