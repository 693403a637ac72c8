/- The walks of the laws of chapter 1. -/
import Derived.Test.YtjhiiikijpalhaaOcE
import Derived.WalkLawsBesides
namespace Go.Proofs.Ytjhiiikijpalhaa
set_option linter.unusedVariables false
set_option linter.unusedSimpArgs false
open Go.RowKit

theorem get_awake : P.get [1, 2, 3] 1 2 = (515, true) := by decide

set_option maxHeartbeats 400000 in
theorem awake1_any (w : World) : Calls Try.prog 12 #[] w fun e w' => e = .returned (.bool true) ∧ Below w.heap.size w w' := by
  go_enter Try.func12, Try.ntmps12
  go_wp2_with fail
  refine (get_any _ _ _ [1, 2, 3] _ _ _ (Rd_lit _ _ [1, 2, 3] (by simp [maxLen])) (by omega)).mono ?_
  rintro e w' ⟨rfl, hb⟩
  rw [get_awake]
  go_wp2
  go_ret
  exact ⟨rfl, below_then ((Below.refl _ w).alloc (Nat.le_refl _) _) hb (by simp)⟩

set_option maxHeartbeats 400000 in
theorem octetGets_walk (a : Option Addr) (len cap : Nat) (l : List UInt8) (at_ n : Int) (w : World) (hr : Rd w a len l) (hc : len ≤ cap)
    (hat : -9223372036854775808 ≤ at_ ∧ at_ ≤ 9223372036854775807) (hn : -9223372036854775808 ≤ n ∧ n ≤ 9223372036854775807) :
    Calls Try.prog 3 #[.slice a len cap, .int .i64 at_, .int .i64 n] w fun e w' => e = .returned (.bool true) ∧ Below w.heap.size w w' := by
  have HR := Lib.hid hr
  clear hr
  by_cases hl : 20000 < (len : Int)
  · go_enter Try.func3, Try.ntmps3
    go_wp2_with fail
    refine (awake1_any _).mono ?_
    rintro e w1 ⟨rfl, hb1⟩
    go_wp2
    go_ret
    exact ⟨rfl, hb1⟩
  · go_enter Try.func3, Try.ntmps3
    go_wp2_with fail
    refine (awake1_any _).mono ?_
    rintro e w1 ⟨rfl, hb1⟩
    go_wp2_with fail
    refine (get_any _ _ _ l _ _ _ (HR.out.below hb1) hat).mono ?_
    rintro e w2 ⟨rfl, hb2⟩
    have hb3 := below_then hb1 hb2 hb1.size
    go_wp2_with fail
    refine (rget_any _ _ _ l _ _ _ (HR.out.below hb3) hat).mono ?_
    rintro e w3 ⟨rfl, rfl⟩
    cases (P.get l at_ n).2
    all_goals
      go_wp2
      go_ret
      exact ⟨by first | rfl | (simp; done), hb3⟩

theorem same_refl (a b : Option Addr) (la ca cb : Nat) (l : List UInt8) (w : World) (hl : Rd w a la l) (hk : Rd w b la l) :
    Calls Try.prog 20 #[.slice a la ca, .slice b la cb] w fun e w' => e = .returned (.bool true) ∧ Below w.heap.size w w' :=
  (same_any a b la la ca cb l l w hl hk).mono fun e w' ⟨h, n, hn⟩ => by
    subst hn
    exact ⟨by simpa using h, below_drewN (Below.refl _ w) n⟩
theorem same_b (a b : Option Addr) (la lb ca cb : Nat) (l k : List UInt8) (w : World) (hl : Rd w a la l) (hk : Rd w b lb k) :
    Calls Try.prog 20 #[.slice a la ca, .slice b lb cb] w fun e w' => e = .returned (.bool (decide (l = k))) ∧ Below w.heap.size w w' :=
  (same_any a b la lb ca cb l k w hl hk).mono fun e w' ⟨h, n, hn⟩ => by
    subst hn
    exact ⟨h, below_drewN (Below.refl _ w) n⟩

set_option maxHeartbeats 800000 in
theorem laid_any (a : Option Addr) (len cap : Nat) (l : List UInt8) (at_ n x : Int) (w : World) (hr : Rd w a len l) (hl : len ≤ 20000)
    (hat : -9223372036854775808 ≤ at_ ∧ at_ ≤ 9223372036854775807) (hn : -9223372036854775808 ≤ n ∧ n ≤ 9223372036854775807) (hx : -9223372036854775808 ≤ x ∧ x ≤ 9223372036854775807) :
    Calls Try.prog 18 #[.slice a len cap, .int .i64 at_, .int .i64 n, .int .i64 x] w fun e w' => e = .returned (.bool true) ∧ Below w.heap.size w w' := by
  obtain rfl := hr.1
  have HR := Lib.hid hr
  clear hr
  cases hp : P.put l at_ n x with
  | none =>
    have HP := Lib.hid hp
    clear hp
    go_enter Try.func18, Try.ntmps18
    go_wp2_with fail
    refine (copy_any _ _ _ l _ HR.out (by omega)).mono ?_
    rintro e w1 ⟨v, rfl, hown, hb1⟩
    obtain ⟨a1, c1, hv, hr1, _⟩ := hown.form
    subst hv
    have HR1 := Lib.hid hr1
    clear hown hr1
    go_wp2_with fail
    refine (put_bad _ _ _ l _ _ _ _ (HR.out.below hb1) HP.out hx).mono ?_
    rintro e w2 ⟨rfl, rfl⟩
    go_wp2_with fail
    refine (rput_bad _ _ _ l _ _ _ _ (HR.out.below hb1) HP.out hx).mono ?_
    rintro e w2 ⟨rfl, rfl⟩
    go_wp2_with fail
    refine (same_refl _ _ _ _ _ [] _ (Rd.nil _ _) (Rd.nil _ _)).mono ?_
    rintro e w2 ⟨rfl, hb2⟩
    have hb2' := below_then hb1 hb2 hb1.size
    go_wp2_with fail
    refine (same_refl _ _ _ _ _ l _ (HR.out.below hb2') (HR1.out.below hb2)).mono ?_
    rintro e w3 ⟨rfl, hb3⟩
    have hb3' := below_then hb2' hb3 hb2'.size
    go_wp2_with fail
    refine (get_any _ _ _ [] _ _ _ (Rd.nil _ _) hat).mono ?_
    rintro e w4 ⟨rfl, hb4⟩
    go_wp2
    go_ret
    exact ⟨rfl, below_then hb3' hb4 hb3'.size⟩
  | some k =>
    have HG := Lib.hid (P.get_put _ _ _ _ _ hp)
    have HP := Lib.hid hp
    clear hp
    go_enter Try.func18, Try.ntmps18
    go_wp2_with fail
    refine (copy_any _ _ _ l _ HR.out (by omega)).mono ?_
    rintro e w1 ⟨v, rfl, hown, hb1⟩
    obtain ⟨a1, c1, hv, hr1, _⟩ := hown.form
    subst hv
    have HR1 := Lib.hid hr1
    clear hown hr1
    go_wp2_with fail
    refine (put_good _ _ _ l k _ _ _ _ (HR.out.below hb1) HP.out (by omega)).mono ?_
    rintro e w2 ⟨v2, rfl, hown2, hb2⟩
    have hb2' := below_then hb1 hb2 hb1.size
    obtain ⟨a2, c2, hv, hr2, _⟩ := hown2.form
    subst hv
    have HR2 := Lib.hid hr2
    clear hown2 hr2
    go_wp2_with fail
    refine (rput_good _ _ _ l k _ _ _ _ (HR.out.below hb2') HP.out (by omega)).mono ?_
    rintro e w3 ⟨v3, rfl, hown3, hb3⟩
    have hb3' := below_then hb2' hb3 hb2'.size
    obtain ⟨a3, c3, hv, hr3, _⟩ := hown3.form
    subst hv
    have HR3 := Lib.hid hr3
    clear hown3 hr3
    go_wp2_with fail
    refine (same_refl _ _ _ _ _ k _ (HR2.out.below hb3) HR3.out).mono ?_
    rintro e w4 ⟨rfl, hb4⟩
    have hb4' := below_then hb3' hb4 hb3'.size
    go_wp2_with fail
    refine (same_refl _ _ _ _ _ l _ (HR.out.below hb4') (((HR1.out.below hb2).below hb3).below hb4)).mono ?_
    rintro e w5 ⟨rfl, hb5⟩
    have hb5' := below_then hb4' hb5 hb4'.size
    go_wp2_with fail
    refine (get_any _ _ _ k _ _ _ (((HR2.out.below hb3).below hb4).below hb5) hat).mono ?_
    rintro e w6 ⟨rfl, hb6⟩
    rw [HG.out]
    go_wp2
    go_ret
    exact ⟨by first | rfl | (simp; done), below_then hb5' hb6 hb5'.size⟩

set_option maxHeartbeats 400000 in
theorem octetPuts_walk (a : Option Addr) (len cap : Nat) (l : List UInt8) (at_ n x : Int) (w : World) (hr : Rd w a len l) (hc : len ≤ cap)
    (hat : -9223372036854775808 ≤ at_ ∧ at_ ≤ 9223372036854775807) (hn : -9223372036854775808 ≤ n ∧ n ≤ 9223372036854775807) (hx : -9223372036854775808 ≤ x ∧ x ≤ 9223372036854775807) :
    Calls Try.prog 5 #[.slice a len cap, .agg #[.int .i64 at_, .int .i64 n], .int .i64 x] w fun e w' => e = .returned (.bool true) ∧ Below w.heap.size w w' := by
  have HR := Lib.hid hr
  clear hr
  by_cases hl : 20000 < (len : Int)
  · have c1 : decide (20000 < (len : Int)) = true := decide_eq_true hl
    go_enter Try.func5, Try.ntmps5
    go_wp2_with fail
    refine (awake1_any _).mono ?_
    rintro e w1 ⟨rfl, hb1⟩
    have hk := made_below hb1
    have g0 : w1.cell? ⟨w.heap.size, 0, none⟩ = some (.int .i64 at_) := cell_blk hk 0
    have g1 : w1.cell? ⟨w.heap.size, 1, none⟩ = some (.int .i64 n) := cell_blk hk 1
    have hb2 : Below w.heap.size w w1 := ((Below.refl _ w).alloc (Nat.le_refl _) _).trans (hb1.mono (by simp))
    clear hk hb1
    go_wp2_with fail
    go_quiet (fail)
    go_wp2
    go_ret
    exact ⟨rfl, below_drewN hb2 _⟩
  · have c1 : decide (20000 < (len : Int)) = false := decide_eq_false hl
    go_enter Try.func5, Try.ntmps5
    go_wp2_with fail
    refine (awake1_any _).mono ?_
    rintro e w1 ⟨rfl, hb1⟩
    have hk := made_below hb1
    have g0 : w1.cell? ⟨w.heap.size, 0, none⟩ = some (.int .i64 at_) := cell_blk hk 0
    have g1 : w1.cell? ⟨w.heap.size, 1, none⟩ = some (.int .i64 n) := cell_blk hk 1
    have hb2 : Below w.heap.size w w1 := ((Below.refl _ w).alloc (Nat.le_refl _) _).trans (hb1.mono (by simp))
    clear hk hb1
    go_wp2_with fail
    go_quiet (fail)
    go_wp2_with fail
    refine (laid_any _ _ _ l _ _ _ _ ((HR.out.below hb2).drewN _) (by omega) hat hn hx).mono ?_
    rintro e w2 ⟨rfl, hb3⟩
    go_wp2
    go_ret
    exact ⟨rfl, below_then (below_drewN hb2 _) hb3 hb2.size⟩
end Go.Proofs.Ytjhiiikijpalhaa
