/- The walker: below. -/
import Derived.Test.YtnjpaanjgbfbaaaGreatJ33
namespace Go.Proofs.YtnjpaanjgbfbaaaGreat
set_option linter.unusedVariables false
set_option linter.unusedSimpArgs false
open Go.RowKit

set_option maxRecDepth 100000 in
set_option maxHeartbeats 1600000 in
theorem below_step (C : AC) (vS : Value) (lv : Nat) (hl9 : lv < 1000) (IH : ∀ lw, lw + 1 = lv → BelowIH C vS lw) : BelowIH C vS lv := by
  intro Lo S st n root w h hn hps
  obtain ⟨w0, hw0⟩ : ∃ w0, w0 = w.alloc (.cells #[.int .i64 0, .int .i64 0, .int .i64 0] 158) := ⟨_, rfl⟩
  have hb0 : Below w.heap.size w w0 := by rw [hw0]; exact (Below.refl _ w).alloc (Nat.le_refl _) _
  have k0 : w0.heap[w.heap.size]? = some (.cells #[.int .i64 0, .int .i64 0, .int .i64 0] 158 (0, 0)) := by rw [hw0]; exact alloc_new _ _ _ rfl
  have hz : w0.heap.size = w.heap.size + 1 := by rw [hw0]; simp
  have hnS : ∀ j, w.heap.size ≤ j → ¬ S j := fun j hj hs => by have := h.sets _ hs; omega
  obtain ⟨X, hX⟩ : ∃ X : Nat → Prop, X = fun j => j = w.heap.size := ⟨_, rfl⟩
  have H0 := Lib.hid (h.lay hb0 (X := X) (fun j hj => by rw [hX] at hj; omega))
  have hX1 : X w.heap.size := by rw [hX]
  have hcn := P.cnt_le C.np st
  have hnp := h.2.2.1
  have HB0 := Lib.hid hb0
  have K0 := Lib.hid k0
  rcases lv with _ | lw
  · have HL := Lib.hid (leaf_any C (addL Lo X) S st vS n root w0 H0.out hn (by omega))
    rw [P.below]
    generalize P.leafW C.img C.np false n root st = SP at *
    clear h hb0 k0 hX IH hnp hz
    go_enter Tryz.func77, Tryz.ntmps77
    go_wp2_with fail
    rw [← hw0]
    clear hw0
    refine HL.out.mono ?_
    rintro e w6 (⟨⟨⟨yp, yb, yl⟩, s'⟩, S6, hy, rfl, hk6, hs6⟩ | ⟨hno, h⟩ | h)
    rotate_left
    · obtain ⟨rfl, h⟩ := h
      exact ⟨rfl, .inr (.inl ⟨hno, EndC.after ⟨rfl, h⟩ (Stp.below HB0.out)⟩)⟩
    · obtain ⟨rfl, h⟩ := h
      exact ⟨rfl, .inr (.inr (EndI.after ⟨rfl, h⟩ (Stp.below HB0.out)))⟩
    have kK := Wk.apart hs6 K0.out (hnS _ (Nat.le_refl _))
    have gK := cell_blk kK
    have fK := free_blk kK
    have hn6 : ¬ S6 w.heap.size := fun hs => hnS _ (Nat.le_refl _) (hs6.2 _ (lt_of_block K0.out) hs)
    have HK6 := Lib.hid hk6
    have HS6 := Lib.hid hs6
    have HKK := Lib.hid kK
    have HY := Lib.hid hy
    clear hk6 hs6 kK hy
    go_wp2
    generalize hW2 : World.setCell _ ⟨w.heap.size, 2, none⟩ _ = W2
    have hc2 : Chg (fun k => k = w.heap.size) w6 W2 := by
      rw [← hW2]
      exact chgS _ _ _ _ _
    have cl2 := cell_blk (show W2.heap[w.heap.size]? = some (.cells #[.int .i64 yp, .int .i64 yb, .int .i64 yl] 158 (0, 0)) by rw [← hW2]; exact blkS HKK.out _ _ _)
    have hfin := (HK6.out.local w.heap.size (.inr hX1) hn6 hc2).unlay
    have hS := (Stp.below HB0.out).trans HS6.out
    exact bodyPost_ret (v := .agg #[.int .i64 yp, .int .i64 yb, .int .i64 yl]) (by simp [results, Tryz.results77, go_sem, cl2]) rfl (.inl ⟨_, S6, HY.out, rfl, hfin, ⟨hS.1.then hc2 (fun i hi e => by omega), hS.2⟩⟩)
  · obtain ⟨lvl, hlvl⟩ : ∃ lvl, lvl = lw + 1 := ⟨_, rfl⟩
    have HL := Lib.hid (inner_any C vS lw lvl hlvl (by omega) (IH lw rfl) (addL Lo X) S st n root w0 H0.out hn hps)
    have hq : ((lvl : Int) == 0) = false := by simp; omega
    generalize P.below C.img C.np false (lw + 1) n root st = SP at *
    rw [← hlvl]
    clear h hb0 k0 hX IH hnp hlvl hz
    go_enter Tryz.func77, Tryz.ntmps77
    go_wp2_with fail
    rw [← hw0]
    clear hw0
    refine HL.out.mono ?_
    rintro e w6 (⟨⟨⟨yp, yb, yl⟩, s'⟩, S6, hy, rfl, hk6, hs6⟩ | ⟨hno, h⟩ | h)
    rotate_left
    · obtain ⟨rfl, h⟩ := h
      exact ⟨rfl, .inr (.inl ⟨hno, EndC.after ⟨rfl, h⟩ (Stp.below HB0.out)⟩)⟩
    · obtain ⟨rfl, h⟩ := h
      exact ⟨rfl, .inr (.inr (EndI.after ⟨rfl, h⟩ (Stp.below HB0.out)))⟩
    have kK := Wk.apart hs6 K0.out (hnS _ (Nat.le_refl _))
    have gK := cell_blk kK
    have fK := free_blk kK
    have hn6 : ¬ S6 w.heap.size := fun hs => hnS _ (Nat.le_refl _) (hs6.2 _ (lt_of_block K0.out) hs)
    have HK6 := Lib.hid hk6
    have HS6 := Lib.hid hs6
    have HKK := Lib.hid kK
    have HY := Lib.hid hy
    clear hk6 hs6 kK hy
    go_wp2
    generalize hW2 : World.setCell _ ⟨w.heap.size, 2, none⟩ _ = W2
    have hc2 : Chg (fun k => k = w.heap.size) w6 W2 := by
      rw [← hW2]
      exact chgS _ _ _ _ _
    have cl2 := cell_blk (show W2.heap[w.heap.size]? = some (.cells #[.int .i64 yp, .int .i64 yb, .int .i64 yl] 158 (0, 0)) by rw [← hW2]; exact blkS HKK.out _ _ _)
    have hfin := (HK6.out.local w.heap.size (.inr hX1) hn6 hc2).unlay
    have hS := (Stp.below HB0.out).trans HS6.out
    exact bodyPost_ret (v := .agg #[.int .i64 yp, .int .i64 yb, .int .i64 yl]) (by simp [results, Tryz.results77, go_sem, cl2]) rfl (.inl ⟨_, S6, HY.out, rfl, hfin, ⟨hS.1.then hc2 (fun i hi e => by omega), hS.2⟩⟩)
theorem below_any (C : AC) (vS : Value) (lv : Nat) (hl9 : lv < 1000) : BelowIH C vS lv := by
  induction lv with
  | zero => exact below_step C vS 0 hl9 (fun lw e => by omega)
  | succ lv ih => exact below_step C vS (lv + 1) hl9 (fun lw e => by obtain rfl : lw = lv := by omega
                                                                     exact ih (by omega))
end Go.Proofs.YtnjpaanjgbfbaaaGreat
