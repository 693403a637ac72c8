/- The walker: tree. -/
import Derived.Test.YtnjpaanjgbfbaaaGreatJ34
import Derived.Deep.DeepCutAuto
namespace Go.Proofs.YtnjpaanjgbfbaaaGreat
set_option linter.unusedVariables false
set_option linter.unusedSimpArgs false
open Go.RowKit

/-- How a part of the walk ends that has no result. -/
def NoEnd (C : AC) (Lo S : Nat → Prop) (vS : Value) (spec : Option P.St) (w : World) (e : Ending) (w' : World) : Prop :=
  (∃ st' S', spec = some st' ∧ e = .returned (.tuple #[]) ∧ Wk C Lo S' w' st' (tkF st') vS ∧ Stp S w S' w') ∨ (spec = none ∧ EndC C S w e w') ∨ EndI C S w e w'
set_option maxRecDepth 100000 in
set_option maxHeartbeats 1600000 in
theorem tree_zero (C : AC) (Lo S : Nat → Prop) (st : P.St) (vS : Value) (w : World) (h : Wk C Lo S w st (tkF st) vS) (hr : C.s.r = 0) :
    Calls Tryz.prog 61 #[.pointer (some ⟨C.q, 0, none⟩)] w (NoEnd C Lo S vS (P.treeW C.img C.np false C.s st) w) := by
  obtain ⟨vP, vT, hq⟩ := h.cells
  have g := cell_blk hq
  unfold wkC at g
  rw [hr] at g
  have HF := Lib.hid (show NoEnd C Lo S vS (P.treeW C.img C.np false C.s st) w (.returned (.tuple #[])) w from .inl ⟨st, S, by unfold P.treeW; rw [if_pos hr], rfl, h, Stp.refl _ _⟩)
  clear h hq hr
  go_enter Tryz.func61, Tryz.ntmps61
  go_wp2
  refine bodyPost_ret (results_none rfl _ _ _) rfl ?_
  exact HF.out
attribute [local irreducible] wpStill wpQuiet in
set_option maxRecDepth 100000 in
set_option maxHeartbeats 3200000 in
theorem tree_some (C : AC) (Lo S : Nat → Prop) (st : P.St) (vS : Value) (n h9 : Nat) (w : World) (h : Wk C Lo S w st (tkF st) vS) (hr : C.s.r = (n : Int)) (hn0 : n ≠ 0) (hn : n < 1000000) (hh : C.s.h = ((h9 + 1 : Nat) : Int)) (hh2 : h9 < 100) (hps : st.ps.length ≤ 20 * P.cnt C.np st) :
    Calls Tryz.prog 61 #[.pointer (some ⟨C.q, 0, none⟩)] w (NoEnd C Lo S vS (P.treeW C.img C.np false C.s st) w) := by
  obtain ⟨vP, vT, hq⟩ := h.cells
  have g := cell_blk hq
  have hspec : P.treeW C.img C.np false C.s st = (P.below C.img C.np false h9 n true st).bind fun x => if x.1.b = C.s.b ∧ x.1.l = C.s.l then some x.2 else none := by
    unfold P.treeW
    rw [if_neg (by omega), hr, hh]
    rfl
  have hbd : Below w.heap.size w w.drew := ⟨rfl, rfl, rfl, Nat.le_refl _, fun _ _ => rfl⟩
  have hba : ∀ o : Obj, Below w.heap.size w (w.drew.alloc o) := fun o => below_of_drew ((Below.refl _ w.drew).alloc (Nat.le_refl _) o)
  obtain ⟨X, hX⟩ : ∃ X : Nat → Prop, X = fun j => j = w.heap.size := ⟨_, rfl⟩
  have hX1 : X w.heap.size := by rw [hX]
  have HLd := Lib.hid (below_any C vS h9 (by omega) Lo S st n true w.drew (h.below hbd) hn hps)
  have HLa := Lib.hid (fun o : Obj => below_any C vS h9 (by omega) (addL Lo X) S st n true (w.drew.alloc o) (h.lay (hba o) (fun j hj => by rw [hX] at hj; subst hj; simp)) hn hps)
  clear hX
  unfold wkC at g
  obtain ⟨hv, hhv⟩ : ∃ hv, hv = C.s.h := ⟨_, rfl⟩
  have hsub : hv - 1 = (h9 : Int) := by rw [hhv]; omega
  have hb1 : 1 ≤ hv ∧ hv ≤ 101 := by rw [hhv]; omega
  obtain ⟨hb2, hb3⟩ := hb1
  rw [hr, ← hhv] at g
  have q1 : ((n : Int) == 0) = false := by simp; omega
  have HQ := Lib.hid hq
  have HSPEC := Lib.hid hspec
  have HH := Lib.hid h
  have ga := fun o : Obj => (show ∀ i, (w.alloc o).cell? ⟨C.q, i, none⟩ = _ from fun i => (cell_blk (alloc_old hq o) i).trans ((cell_blk hq i).symm.trans (g i)))
  have HBD := Lib.hid hbd
  have HBA := Lib.hid hba
  clear hbd hba
  clear h hq hspec hr hh hhv
  go_enter Tryz.func61, Tryz.ntmps61
  go_wp2
  have HAB := Lib.hid (fun o : Obj => (show (w.drew.alloc o).heap[w.heap.size]? = some o from alloc_new _ _ _ rfl))
  have hnS : ∀ j, w.heap.size ≤ j → ¬ S j := fun j hj hs => by have := HH.out.sets _ hs; omega
  have HNO := Lib.hid (fun (hno : P.below C.img C.np false h9 n true st = none) => show P.treeW C.img C.np false C.s st = none by rw [HSPEC.out, hno]; rfl)
  have hwr : IntKind.i64.wrap (h9 : Int) = (h9 : Int) := IntWalk.i64_in _ (by omega)
  go_upto_region 1 with (fail)
  go_cut [2] from 3 (fun s2 wx => ∃ (g9 : Nat) (yp yb yl : Int) (s' : P.St) (S6 : Nat → Prop), s2 = .pointer (some ⟨g9, 0, none⟩) ∧ P.below C.img C.np false h9 n true st = some (⟨yp, yb, yl⟩, s') ∧ Wk C Lo S6 wx s' (tkF s') vS ∧ Stp S w S6 wx ∧ wx.heap[g9]? = some (.cells #[.int .i64 yp, .int .i64 yb, .int .i64 yl] 158 (0, 0)))
  case first =>
    go_region_with ((go_at_call 77; (first | (refine HLd.out.mono ?_) | (refine (HLa.out _).mono ?_)); rintro e w6 (⟨⟨⟨yp, yb, yl⟩, s'⟩, S6, hy, rfl, hk6, hs6⟩ | ⟨hno, h⟩ | h); rotate_left; (obtain ⟨rfl, h⟩ := h; exact ⟨rfl, .inr (.inl ⟨HNO.out hno, EndC.after ⟨rfl, h⟩ (Stp.below (by first | exact HBD.out | exact HBA.out _))⟩)⟩); (obtain ⟨rfl, h⟩ := h; exact ⟨rfl, .inr (.inr (EndI.after ⟨rfl, h⟩ (Stp.below (by first | exact HBD.out | exact HBA.out _))))⟩); (first | (have kb := Wk.apart (j := w.heap.size) hs6 (HAB.out _) (hnS _ (Nat.le_refl _)); have gb := cell_blk kb; have fb := free_blk kb) | skip)))
    all_goals
      go_wp2_with fail
      go_meet
      case rel =>
        first
          | exact ⟨_, yp, yb, yl, s', S6, rfl, hy, hk6.below ((Below.refl _ _).alloc (Nat.le_refl _) _), ((Stp.below HBD.out).trans hs6).trans (Stp.below ((Below.refl _ _).alloc (Nat.le_refl _) _)), alloc_new _ _ _ rfl⟩
          | (have T1 := (Stp.below (HBA.out _)).trans hs6
             have hn6 : ¬ S6 w.heap.size := fun hs => hnS _ (Nat.le_refl _) (hs6.2 _ (lt_of_block (HAB.out _)) hs)
             exact ⟨_, yp, yb, yl, s', S6, rfl, hy, (hk6.local w.heap.size (.inr hX1) hn6 (chgS _ _ _ _ _)).unlay, ⟨T1.1.then (chgS _ _ _ _ _) (fun i hi e => by omega), T1.2⟩, blkS kb _ _ _⟩)
  case rest =>
    obtain ⟨g9, yp, yb, yl, s', S6, rfl, hy, hk, hs, hbox⟩ := hcut
    obtain ⟨vP2, vT2, hq2⟩ := hk.cells
    have gq := cell_blk hq2
    have gB := cell_blk hbox
    unfold wkC at gq
    have HY := Lib.hid hy
    have HK := Lib.hid hk
    have HS := Lib.hid hs
    clear hy hk hs hbox hq2 ga g
    have hdd : Below wc.heap.size wc wc.drew := ⟨rfl, rfl, rfl, Nat.le_refl _, fun _ _ => rfl⟩
    have HECD := Lib.hid (EndC.after (HK.out.below hdd).endC (HS.out.trans (Stp.below hdd)))
    have HSP0 := Lib.hid (show P.treeW C.img C.np false C.s st = if yb = C.s.b ∧ yl = C.s.l then some s' else none by rw [HSPEC.out, HY.out]; rfl)
    by_cases e1 : yb = C.s.b
    · have q1 : (yb == C.s.b) = true := by simpa using e1
      by_cases e2 : yl = C.s.l
      · have q2 : (yl == C.s.l) = true := by simpa using e2
        have HFIN := Lib.hid (show NoEnd C Lo S vS (P.treeW C.img C.np false C.s st) w (.returned (.tuple #[])) wc from .inl ⟨s', S6, by rw [HSP0.out, if_pos ⟨e1, e2⟩], rfl, HK.out, HS.out⟩)
        have HFIN2 := Lib.hid (show NoEnd C Lo S vS (P.treeW C.img C.np false C.s st) w (.returned (.tuple #[])) wc.drew from .inl ⟨s', S6, by rw [HSP0.out, if_pos ⟨e1, e2⟩], rfl, HK.out.below ⟨rfl, rfl, rfl, Nat.le_refl _, fun _ _ => rfl⟩, HS.out.trans (Stp.below ⟨rfl, rfl, rfl, Nat.le_refl _, fun _ _ => rfl⟩)⟩)
        clear e1 e2
        go_wp2_with fail
        go_region_held3 (fun w' => w'.cell? ⟨g9, 1, none⟩ = some (.int .i64 yb) ∧ w'.cell? ⟨g9, 2, none⟩ = some (.int .i64 yl) ∧ w'.cell? ⟨C.q, 5, none⟩ = some (.int .i64 C.s.b) ∧ w'.cell? ⟨C.q, 6, none⟩ = some (.int .i64 C.s.l)) (go_keep) ((go_at_call 59; refine (must_t _).mono ?_; rintro e w4 ⟨rfl, rfl⟩))
        all_goals
          go_end0
          exact HFIN2.out
      · have q2 : (yl == C.s.l) = false := by simpa using e2
        have HFIN := Lib.hid (show NoEnd C Lo S vS (P.treeW C.img C.np false C.s st) w (pan 8) wc.drew from .inr (.inl ⟨by rw [HSP0.out, if_neg (fun e => e2 e.2)], HECD.out⟩))
        clear e1 e2
        go_wp2_with fail
        go_still_tail 18, (by kernel_rfl)
        go_wp2_with (go_at_call 59; refine (must_f _).mono ?_; rintro e w4 ⟨rfl, rfl⟩)
        exact ⟨rfl, HFIN.out⟩
    · have q1 : (yb == C.s.b) = false := by simpa using e1
      have HFIN := Lib.hid (show NoEnd C Lo S vS (P.treeW C.img C.np false C.s st) w (pan 8) wc.drew from .inr (.inl ⟨by rw [HSP0.out, if_neg (fun e => e1 e.1)], HECD.out⟩))
      clear e1
      go_wp2_with fail
      go_still_tail 18, (by kernel_rfl)
      go_wp2_with (go_at_call 59; refine (must_f _).mono ?_; rintro e w4 ⟨rfl, rfl⟩)
      exact ⟨rfl, HFIN.out⟩
end Go.Proofs.YtnjpaanjgbfbaaaGreat
