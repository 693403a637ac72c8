/- The reference: Walk. Printed by gen_rfi.py. -/
import Derived.Test.YtnjpaanjgbfbaaaGreatJ38
import Derived.Test.YtnjpaanjgbfbaaaGreatJ26
import Derived.Test.YtnjpaanjgbfbaaaGreatJ39
import Derived.Test.YtnjpaanjgbfbaaaGreatJ09
namespace Go.Proofs.YtnjpaanjgbfbaaaGreat
set_option linter.unusedVariables false
set_option linter.unusedSimpArgs false
open Go.RowKit

/-- What the reference's walk comes to. -/
def rwalk (np : Nat) (img : List UInt8) (s : P.Sup) : Option (List UInt8 × P.St) :=
  if s.p = (np : Int) then
    (P.treeW img np true s P.St.new).bind fun s1 => (P.chainW img np (np + 1) s.s.toNat [] s1).bind fun c1 => (P.chainW img np (np + 1) s.f.toNat [] c1.2).bind fun c2 => if P.freeOk np c2.1 c2.2 = true then some (c1.1, c2.2) else none
  else none
/-- A report of the reference. -/
def repR (s : P.Sup) (place : Int) (vP vT vS vG : Value) (h : Int) : Array Value :=
  #[.int .i64 s.g, .int .i64 s.p, .int .i64 s.r, .int .i64 s.h, .int .i64 s.b, .int .i64 s.l, .int .i64 s.s, .int .i64 s.f, .int .i64 place, vP, vT, vS, vG, .int .i64 h]
def repRZ : Value := .agg (repR .zero 0 (.slice none 0 0) (.slice none 0 0) (.slice none 0 0) (.slice none 0 0) 0)
/-- How the reference's Walk ends. -/
def RWend (np : Nat) (img : List UInt8) (s : P.Sup) (w : World) (e : Ending) (w' : World) : Prop :=
  Below w.heap.size w w' ∧ ((s.chk ≠ 0 ∧ e = .returned (.tuple #[repRZ, .int .i64 1])) ∨ (s.chk = 0 ∧ rwalk np img s = none ∧ e = .returned (.tuple #[repRZ, .int .i64 8])) ∨
    (s.chk = 0 ∧ ∃ sl st vP vT vS vG, rwalk np img s = some (sl, st) ∧ e = .returned (.tuple #[.agg (repR s (-1) vP vT vS vG s.h), .int .i64 0]) ∧ RepIs w' w.heap.size np st sl vP vT vS vG))

theorem blk14 {w1 : World} {B : Nat} {a0 a1 a2 a3 a4 a5 a6 a7 a8 a9 a10 a11 a12 a13 : Value} {t : TypeId} {fr : Nat × Nat} (h : w1.heap[B]? = some (.cells #[a0, a1, a2, a3, a4, a5, a6, a7, a8, a9, a10, a11, a12, a13] t fr)) (u0 u1 u2 u3 u4 u5 u6 u7 u8 u9 u10 u11 u12 u13 : Value) :
    ((((((((((((((w1.setCell ⟨B, 0, none⟩ u0).setCell ⟨B, 1, none⟩ u1).setCell ⟨B, 2, none⟩ u2).setCell ⟨B, 3, none⟩ u3).setCell ⟨B, 4, none⟩ u4).setCell ⟨B, 5, none⟩ u5).setCell ⟨B, 6, none⟩ u6).setCell ⟨B, 7, none⟩ u7).setCell ⟨B, 8, none⟩ u8).setCell ⟨B, 9, none⟩ u9).setCell ⟨B, 10, none⟩ u10).setCell ⟨B, 11, none⟩ u11).setCell ⟨B, 12, none⟩ u12).setCell ⟨B, 13, none⟩ u13).heap[B]? = some (.cells #[u0, u1, u2, u3, u4, u5, u6, u7, u8, u9, u10, u11, u12, u13] t fr) := by
  have h0 := blk_setCell h 0 u0
  simp only [List.setIfInBounds_toArray, List.set_cons_zero, List.set_cons_succ] at h0
  have h1 := blk_setCell h0 1 u1
  simp only [List.setIfInBounds_toArray, List.set_cons_zero, List.set_cons_succ] at h1
  have h2 := blk_setCell h1 2 u2
  simp only [List.setIfInBounds_toArray, List.set_cons_zero, List.set_cons_succ] at h2
  have h3 := blk_setCell h2 3 u3
  simp only [List.setIfInBounds_toArray, List.set_cons_zero, List.set_cons_succ] at h3
  have h4 := blk_setCell h3 4 u4
  simp only [List.setIfInBounds_toArray, List.set_cons_zero, List.set_cons_succ] at h4
  have h5 := blk_setCell h4 5 u5
  simp only [List.setIfInBounds_toArray, List.set_cons_zero, List.set_cons_succ] at h5
  have h6 := blk_setCell h5 6 u6
  simp only [List.setIfInBounds_toArray, List.set_cons_zero, List.set_cons_succ] at h6
  have h7 := blk_setCell h6 7 u7
  simp only [List.setIfInBounds_toArray, List.set_cons_zero, List.set_cons_succ] at h7
  have h8 := blk_setCell h7 8 u8
  simp only [List.setIfInBounds_toArray, List.set_cons_zero, List.set_cons_succ] at h8
  have h9 := blk_setCell h8 9 u9
  simp only [List.setIfInBounds_toArray, List.set_cons_zero, List.set_cons_succ] at h9
  have h10 := blk_setCell h9 10 u10
  simp only [List.setIfInBounds_toArray, List.set_cons_zero, List.set_cons_succ] at h10
  have h11 := blk_setCell h10 11 u11
  simp only [List.setIfInBounds_toArray, List.set_cons_zero, List.set_cons_succ] at h11
  have h12 := blk_setCell h11 12 u12
  simp only [List.setIfInBounds_toArray, List.set_cons_zero, List.set_cons_succ] at h12
  have h13 := blk_setCell h12 13 u13
  simp only [List.setIfInBounds_toArray, List.set_cons_zero, List.set_cons_succ] at h13
  exact h13
theorem chg14 {S : Nat → Prop} {w w1 : World} {B : Nat} (h : Chg S w w1) (hB : w.heap.size ≤ B ∨ S B) (u0 u1 u2 u3 u4 u5 u6 u7 u8 u9 u10 u11 u12 u13 : Value) : Chg S w ((((((((((((((w1.setCell ⟨B, 0, none⟩ u0).setCell ⟨B, 1, none⟩ u1).setCell ⟨B, 2, none⟩ u2).setCell ⟨B, 3, none⟩ u3).setCell ⟨B, 4, none⟩ u4).setCell ⟨B, 5, none⟩ u5).setCell ⟨B, 6, none⟩ u6).setCell ⟨B, 7, none⟩ u7).setCell ⟨B, 8, none⟩ u8).setCell ⟨B, 9, none⟩ u9).setCell ⟨B, 10, none⟩ u10).setCell ⟨B, 11, none⟩ u11).setCell ⟨B, 12, none⟩ u12).setCell ⟨B, 13, none⟩ u13) :=
  (((((((((((((h.setCell _ _ hB).setCell _ _ hB).setCell _ _ hB).setCell _ _ hB).setCell _ _ hB).setCell _ _ hB).setCell _ _ hB).setCell _ _ hB).setCell _ _ hB).setCell _ _ hB).setCell _ _ hB).setCell _ _ hB).setCell _ _ hB).setCell _ _ hB
set_option maxRecDepth 100000 in
set_option maxHeartbeats 1600000 in
theorem rwalk_arg (a : Option Addr) (n c np : Nat) (img : List UInt8) (s : P.Sup) (w : World) (hr : Rd w a n img) (hchk : s.chk ≠ 0) :
    Calls Tryz.prog 29 #[.slice a n c, supV s] w (RWend np img s w) := by
  obtain ⟨w0, hw0⟩ : ∃ w0, w0 = (w.alloc (.cells #[.int .i64 s.g, .int .i64 s.p, .int .i64 s.r, .int .i64 s.h, .int .i64 s.b, .int .i64 s.l, .int .i64 s.s, .int .i64 s.f] 25)).alloc (.cells #[.int .i64 0, .int .i64 0, .int .i64 0, .int .i64 0, .int .i64 0, .int .i64 0, .int .i64 0, .int .i64 0, .int .i64 0, .slice none 0 0, .slice none 0 0, .slice none 0 0, .slice none 0 0, .int .i64 0] 39) := ⟨_, rfl⟩
  have hb0 : Below w.heap.size w w0 := by rw [hw0]; exact ((Below.refl _ w).alloc (Nat.le_refl _) _).alloc (by simp) _
  have k0 : w0.heap[w.heap.size]? = some (.cells #[.int .i64 s.g, .int .i64 s.p, .int .i64 s.r, .int .i64 s.h, .int .i64 s.b, .int .i64 s.l, .int .i64 s.s, .int .i64 s.f] 25 (0, 0)) := by rw [hw0]; exact alloc_old (alloc_new _ _ _ rfl) _
  have r0 : w0.heap[w.heap.size + 1]? = some (.cells #[.int .i64 0, .int .i64 0, .int .i64 0, .int .i64 0, .int .i64 0, .int .i64 0, .int .i64 0, .int .i64 0, .int .i64 0, .slice none 0 0, .slice none 0 0, .slice none 0 0, .slice none 0 0, .int .i64 0] 39 (0, 0)) := by rw [hw0]; exact alloc_new _ _ _ (by simp)
  have g0 := cell_blk k0
  have HCK := Lib.hid (rchk_any s w0)
  unfold supV at HCK ⊢
  have q : (s.chk != 0) = true := by simpa using hchk
  have HC := Lib.hid hchk
  have HB0 := Lib.hid hb0
  have R0 := Lib.hid r0
  clear hb0 k0 r0 hchk hr
  go_enter Tryz.func29, Tryz.ntmps29
  go_wp2_with fail
  rw [← hw0]
  clear hw0
  refine HCK.out.mono ?_
  rintro e w1 ⟨rfl, hb1⟩
  have r1 := (hb1.block _ (lt_of_block R0.out)).trans R0.out
  have gr := cell_blk r1
  have fr := free_blk r1
  have cl := cell_blk (blk14 r1 (.int .i64 0) (.int .i64 0) (.int .i64 0) (.int .i64 0) (.int .i64 0) (.int .i64 0) (.int .i64 0) (.int .i64 0) (.int .i64 0) (.slice none 0 0) (.slice none 0 0) (.slice none 0 0) (.slice none 0 0) (.int .i64 0))
  have hc := (Chg.refl (fun j => j = w.heap.size + 1) w1)
  have hcc := chg14 hc (.inr rfl) (.int .i64 0) (.int .i64 0) (.int .i64 0) (.int .i64 0) (.int .i64 0) (.int .i64 0) (.int .i64 0) (.int .i64 0) (.int .i64 0) (.slice none 0 0) (.slice none 0 0) (.slice none 0 0) (.slice none 0 0) (.int .i64 0)
  have HFIN := Lib.hid (((Chg.of_below HB0.out (fun _ => False)).trans (Chg.of_below (hb1) _)).then hcc (fun i hi e => by omega))
  clear hb1 r1 hc hcc g0
  go_wp2
  exact bodyPost_ret (v := .tuple #[repRZ, .int .i64 1]) (by simp [results, Tryz.results29, go_sem, cl, repRZ, repR, P.Sup.zero]) rfl ⟨HFIN.out.below (fun _ _ h => h), .inl ⟨HC.out, rfl⟩⟩
set_option maxRecDepth 100000 in
set_option maxHeartbeats 1600000 in
theorem rwalk_pages (a : Option Addr) (n c np : Nat) (img : List UInt8) (s : P.Sup) (w : World) (hr : Rd w a n img) (hn : n = 256 * np) (h4 : np ≤ 4096) (hchk : s.chk = 0) (hp : s.p ≠ (np : Int)) :
    Calls Tryz.prog 29 #[.slice a n c, supV s] w (RWend np img s w) := by
  obtain ⟨w0, hw0⟩ : ∃ w0, w0 = (w.alloc (.cells #[.int .i64 s.g, .int .i64 s.p, .int .i64 s.r, .int .i64 s.h, .int .i64 s.b, .int .i64 s.l, .int .i64 s.s, .int .i64 s.f] 25)).alloc (.cells #[.int .i64 0, .int .i64 0, .int .i64 0, .int .i64 0, .int .i64 0, .int .i64 0, .int .i64 0, .int .i64 0, .int .i64 0, .slice none 0 0, .slice none 0 0, .slice none 0 0, .slice none 0 0, .int .i64 0] 39) := ⟨_, rfl⟩
  have hb0 : Below w.heap.size w w0 := by rw [hw0]; exact ((Below.refl _ w).alloc (Nat.le_refl _) _).alloc (by simp) _
  have k0 : w0.heap[w.heap.size]? = some (.cells #[.int .i64 s.g, .int .i64 s.p, .int .i64 s.r, .int .i64 s.h, .int .i64 s.b, .int .i64 s.l, .int .i64 s.s, .int .i64 s.f] 25 (0, 0)) := by rw [hw0]; exact alloc_old (alloc_new _ _ _ rfl) _
  have r0 : w0.heap[w.heap.size + 1]? = some (.cells #[.int .i64 0, .int .i64 0, .int .i64 0, .int .i64 0, .int .i64 0, .int .i64 0, .int .i64 0, .int .i64 0, .int .i64 0, .slice none 0 0, .slice none 0 0, .slice none 0 0, .slice none 0 0, .int .i64 0] 39 (0, 0)) := by rw [hw0]; exact alloc_new _ _ _ (by simp)
  have g0 := cell_blk k0
  have HCK := Lib.hid (rchk_any s w0)
  unfold supV at HCK ⊢
  have q : (s.chk != 0) = false := by simpa using hchk
  have q2 : (s.p != (np : Int)) = true := by simpa using hp
  have q3 : (n : Int) / 256 = (np : Int) := by omega
  have HC := Lib.hid hchk
  have HP := Lib.hid hp
  have HB0 := Lib.hid hb0
  have R0 := Lib.hid r0
  have K0 := Lib.hid k0
  have nb : (n : Int) ≤ 1048576 := by omega
  clear hb0 k0 r0 hchk hr hp hn
  go_enter Tryz.func29, Tryz.ntmps29
  go_wp2_with fail
  rw [← hw0]
  clear hw0
  refine HCK.out.mono ?_
  rintro e w1 ⟨rfl, hb1⟩
  have r1 := (hb1.block _ (lt_of_block R0.out)).trans R0.out
  have g1 := cell_blk ((hb1.block _ (lt_of_block K0.out)).trans K0.out)
  have gr := cell_blk r1
  have fr := free_blk r1
  have cl := cell_blk (blk14 r1 (.int .i64 0) (.int .i64 0) (.int .i64 0) (.int .i64 0) (.int .i64 0) (.int .i64 0) (.int .i64 0) (.int .i64 0) (.int .i64 0) (.slice none 0 0) (.slice none 0 0) (.slice none 0 0) (.slice none 0 0) (.int .i64 0))
  have hc := (Chg.refl (fun j => j = w.heap.size + 1) w1)
  have hcc := chg14 hc (.inr rfl) (.int .i64 0) (.int .i64 0) (.int .i64 0) (.int .i64 0) (.int .i64 0) (.int .i64 0) (.int .i64 0) (.int .i64 0) (.int .i64 0) (.slice none 0 0) (.slice none 0 0) (.slice none 0 0) (.slice none 0 0) (.int .i64 0)
  have HFIN := Lib.hid (((Chg.of_below HB0.out (fun _ => False)).trans (Chg.of_below (hb1) _)).then hcc (fun i hi e => by omega))
  clear hb1 r1 hc hcc g0
  go_wp2
  exact bodyPost_ret (v := .tuple #[repRZ, .int .i64 8]) (by simp [results, Tryz.results29, go_sem, cl, repRZ, repR, P.Sup.zero]) rfl ⟨HFIN.out.below (fun _ _ h => h), .inr (.inl ⟨HC.out, by unfold rwalk; rw [if_neg HP.out], rfl⟩)⟩
end Go.Proofs.YtnjpaanjgbfbaaaGreat
