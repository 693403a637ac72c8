/- The walks of chapter 11: may there be a page, how many pages, noughts. -/
import Derived.Test.YtnjpaanjgbfbaaaGreatJ09
import Derived.Test.YtnjpaanjgbfbaaaGreatJ11
import Derived.RangeFuncNested
import Derived.RangeFuncBound
import Derived.RangeFuncCalls
import Derived.RangeFuncLeaves
import Derived.Shelf.Abstract
import Derived.Shelf.RegionOpen
import Derived.WalkKit
import Derived.OwnWalkIn
import Derived.TacticsInMore
import Derived.LoopNIn
import Derived.LoopIn
import Derived.Test.YtnjpaanjgbfbaaaGreatJ03
namespace Go.Proofs.YtnjpaanjgbfbaaaGreat
set_option linter.unusedVariables false
set_option linter.unusedSimpArgs false
open Go.RowKit

theorem chon_any (n : Int) (w : World) : Calls Tryz.prog 92 #[.int .i64 n] w fun e w' => e = .returned (.bool (decide (2 ≤ n ∧ n < 4096))) ∧ w' = w := by
  go_enter Tryz.func92, Tryz.ntmps92
  by_cases h1 : 2 ≤ n <;> by_cases h2 : n < 4096
  all_goals
    go_wp2
    go_ret
    exact ⟨by simp [*], rfl⟩
theorem rneed_any (n : Int) (w : World) (hn : -9223372036854775808 ≤ n ∧ n ≤ 9223372036854775807) : Calls Tryz.prog 24 #[.int .i64 n] w fun e w' => e = .returned (.int .i64 (P.need n)) ∧ w' = w := by
  obtain ⟨N, hN⟩ : ∃ N, N = P.need n := ⟨_, rfl⟩
  unfold P.need at hN
  rw [show P.need n = N by rw [hN]; rfl]
  by_cases h1 : n < 1
  · have c1 : decide (n < 1) = true := decide_eq_true h1
    rw [if_pos h1] at hN
    subst hN
    go_enter Tryz.func24, Tryz.ntmps24
    go_wp2
    go_ret
    exact ⟨rfl, rfl⟩
  · have c1 : decide (n < 1) = false := decide_eq_false h1
    rw [if_neg h1] at hN
    have hq : Int.tdiv (n - 1) 244 = (n - 1) / 244 := Int.tdiv_eq_ediv_of_nonneg (by omega)
    have hw1 : IntKind.i64.wrap (n - 1) = n - 1 := IntWalk.i64_in _ (by omega)
    have hw2 : IntKind.i64.wrap ((n - 1) / 244) = (n - 1) / 244 := IntWalk.i64_in _ (by omega)
    have hw3 : IntKind.i64.wrap ((n - 1) / 244 + 1) = (n - 1) / 244 + 1 := IntWalk.i64_in _ (by omega)
    have HN := Lib.hid hN
    clear hN
    go_enter Tryz.func24, Tryz.ntmps24
    go_wp2
    go_ret
    exact ⟨by rw [HN.out]; first | rfl | simp [hq, hw1, hw2, hw3], rfl⟩
set_option maxRecDepth 100000 in
set_option maxHeartbeats 400000 in
theorem chnoughts_any (a : Option Addr) (len cap : Nat) (l : List UInt8) (w : World) (hl : Rd w a len l) :
    Calls Tryz.prog 93 #[.slice a len cap] w fun e w' => e = .returned (.bool (P.zeros l)) ∧ w' = w := by
  have la1 : l.length ≤ len := by have := hl.1; omega
  have la2 : len ≤ l.length := by have := hl.1; omega
  have hm := hl.2.1
  unfold maxLen at hm
  have HL := Lib.hid hl
  clear hl
  go_enter Tryz.func93, Tryz.ntmps93
  go_wp2
  go_loopw [7] (fun i wr => ∃ j : Nat, j ≤ len ∧ i = .int .i64 j ∧ P.zeros (l.take j) = true ∧ wr = w) (fun i _ => len - (intOf i).toNat)
  case atStart => exact ⟨0, by omega, rfl, by simp [P.zeros], rfl⟩
  case round =>
    obtain ⟨j, hj, rfl, hpre, rfl⟩ := hrel
    have HP := Lib.hid hpre
    clear hpre
    by_cases hlt : j < len
    · obtain ⟨p, rfl, hc0⟩ := HL.out.at j (by omega)
      unfold bv at hc0
      by_cases he : l[j] = 0
      · have ht : ((l[j].toNat : Int) != 0) = false := by simp [he]
        have HN : Hid (P.zeros (l.take (j + 1)) = true) := Lib.hid (zeros_take HP.out (by omega) he)
        clear he
        go_wp2
        exact ⟨⟨j + 1, by omega, by go_num, HN.out, by first | trivial | rfl⟩, by simp [intOf]; omega⟩
      · have ht : ((l[j].toNat : Int) != 0) = true := by
          simp only [bne_iff_ne, ne_eq]
          intro e
          exact he (UInt8.toNat_inj.1 (by simpa using e))
        have HV := Lib.hid (zeros_not (by omega) he)
        clear he
        go_wp2
        go_ret
        exact ⟨by rw [HV.out]; rfl, rfl⟩
    · obtain rfl : j = len := by omega
      have hv : P.zeros l = true := by
        have e := HP.out
        rwa [List.take_of_length_le (by omega)] at e
      have HV := Lib.hid hv
      clear hv
      go_wp2
      go_ret
      exact ⟨by rw [HV.out]; rfl, rfl⟩

end Go.Proofs.YtnjpaanjgbfbaaaGreat
/- The walk of chapter 11: Part. Printed by gen_chb.py. -/
namespace Go.Proofs.YtnjpaanjgbfbaaaGreat
set_option linter.unusedVariables false
set_option linter.unusedSimpArgs false
open Go.RowKit

theorem chbody_length {l : List UInt8} (h : P.openErr l = 0) : (P.openBody l).length = 248 := by
  have := P.openErr_len l h
  simp [P.openBody]
  omega
theorem get_nn (b : List UInt8) (a n : Int) : 0 ≤ (P.get b a n).1 := by
  unfold P.get
  split
  · simp only; split <;> omega
  · simp
theorem pt_bad {l : List UInt8} (h : P.openErr l = 0) (hn : ¬ P.goodC l) : P.ptErr l = 4 ∧ P.ptL l = [] ∧ P.ptN l = 0 := by
  have e : P.ptErr l = 4 := by unfold P.ptErr; rw [if_neg (by simpa using h), if_neg hn]
  exact ⟨e, by unfold P.ptL; rw [if_neg (by omega)], by unfold P.ptN; rw [if_neg (by omega)]⟩
theorem pt_open {l : List UInt8} (h : P.openErr l ≠ 0) : P.ptErr l = P.openErr l ∧ P.ptL l = [] ∧ P.ptN l = 0 := by
  have e : P.ptErr l = P.openErr l := by unfold P.ptErr; rw [if_pos h]
  exact ⟨e, by unfold P.ptL; rw [if_neg (by omega)], by unfold P.ptN; rw [if_neg (by omega)]⟩
theorem pt_good {l : List UInt8} (h : P.openErr l = 0) (hn : P.goodC l) : P.ptErr l = 0 ∧ P.ptL l = ((P.openBody l).drop 4).take (P.openCount l) ∧ P.ptN l = P.nxt l := by
  have e : P.ptErr l = 0 := by unfold P.ptErr; rw [if_neg (by simpa using h), if_pos hn]
  exact ⟨e, by unfold P.ptL; rw [if_pos e], by unfold P.ptN; rw [if_pos e]⟩
/-- What Part tells: a slice that reads as the part. -/
def PartEnd (w : World) (l : List UInt8) (e : Ending) (w' : World) : Prop :=
  ∃ a n c, e = .returned (.tuple #[.slice a n c, .int .i64 (P.ptN l), .int .i64 (P.ptErr l)]) ∧ Rd w' a n (P.ptL l) ∧ n ≤ c ∧ (∀ p, a = some p → w.heap.size ≤ p.block) ∧ Below w.heap.size w w'
theorem PartEnd.empty {w w' : World} {l : List UInt8} {E : Int} (h : P.ptErr l = E ∧ P.ptL l = [] ∧ P.ptN l = 0) (hb : Below w.heap.size w w') : PartEnd w l (.returned (.tuple #[.slice none 0 0, .int .i64 0, .int .i64 E])) w' :=
  ⟨Option.none, 0, 0, by rw [h.1, h.2.2], by rw [h.2.1]; exact Rd.nil _ _, Nat.le_refl _, (fun p hp => by cases hp), hb⟩
set_option maxRecDepth 100000 in
set_option maxHeartbeats 1600000 in
theorem part_open (a : Option Addr) (len cap : Nat) (l : List UInt8) (w : World) (hr : Rd w a len l) (hc : len ≤ cap) (he : P.openErr l ≠ 0) :
    Calls Tryz.prog 78 #[.slice a len cap] w fun e w' => e = .returned (.tuple #[.slice none 0 0, .int .i64 0, .int .i64 (P.openErr l)]) ∧ Below w.heap.size w w' := by
  have c1 : (P.openErr l != 0) = true := by simpa using he
  have HO := Lib.hid (open_fun a len cap l w hr hc)
  generalize P.openErr l = E at *
  clear hr he
  go_enter Tryz.func78, Tryz.ntmps78
  go_wp2_with fail
  refine HO.out.mono ?_
  rintro e w1 ⟨v, rfl, hown, hb1⟩
  obtain ⟨av, pv, hv, -, -, -, -⟩ := hown.form
  subst hv
  clear hown
  go_wp2
  exact bodyPost_ret (v := .tuple #[.slice none 0 0, .int .i64 0, .int .i64 E]) (by simp [results, Tryz.results78, go_sem]) rfl ⟨rfl, hb1.alloc hb1.size _⟩
set_option maxRecDepth 100000 in
set_option maxHeartbeats 1600000 in
theorem part_form (a : Option Addr) (len cap : Nat) (l : List UInt8) (w : World) (hr : Rd w a len l) (hc : len ≤ cap) (he : P.openErr l = 0)
    (hf : ¬ (P.openKind l = 5 ∧ P.openLevel l = 0 ∧ 1 ≤ P.openCount l ∧ P.openCount l ≤ 244)) :
    Calls Tryz.prog 78 #[.slice a len cap] w fun e w' => e = .returned (.tuple #[.slice none 0 0, .int .i64 0, .int .i64 4]) ∧ Below w.heap.size w w' := by
  have HO := open_fun a len cap l w hr hc
  rw [he, show P.oK l = ((P.openKind l : Nat) : Int) by simp [P.oK, he], show P.oL l = ((P.openLevel l : Nat) : Int) by simp [P.oL, he], show P.oC l = ((P.openCount l : Nat) : Int) by simp [P.oC, he], show P.oB l = P.openBody l by simp [P.oB, he]] at HO
  have HO := Lib.hid HO
  have hBl := chbody_length he
  generalize P.openBody l = BD at *
  generalize P.openKind l = kk at *
  generalize P.openLevel l = lv at *
  generalize P.openCount l = ct at *
  clear hr he
  go_enter Tryz.func78, Tryz.ntmps78
  go_wp2_with fail
  refine HO.out.mono ?_
  rintro e w1 ⟨v, rfl, hown, hb1⟩
  obtain ⟨ga, pv, hv, hga, -, hr1, hpv⟩ := hown.pos (by omega)
  rw [hBl] at hv hr1 hpv
  subst hv
  have HR1 := Lib.hid hr1
  clear hown hr1
  have hb2 : Below w1.heap.size w1 (w1.alloc (.cells #[.int .i64 (kk : Nat), .int .i64 (lv : Nat), .int .i64 (ct : Nat), .slice (some ⟨ga, 0, none⟩) 248 pv] 89)) := (Below.refl _ w1).alloc (Nat.le_refl _) _
  have hk2 : (w1.alloc (.cells #[.int .i64 (kk : Nat), .int .i64 (lv : Nat), .int .i64 (ct : Nat), .slice (some ⟨ga, 0, none⟩) 248 pv] 89)).heap[w1.heap.size]? = _ := alloc_new _ _ _ rfl
  go_wp2_with fail
  generalize (w1.alloc (.cells #[.int .i64 (kk : Nat), .int .i64 (lv : Nat), .int .i64 (ct : Nat), .slice (some ⟨ga, 0, none⟩) 248 pv] 89)) = w2 at *
  have hbb2 := below_then hb1 hb2 hb1.size
  have HR2 := Lib.hid (HR1.out.below hb2)
  have l2 := lt_of_block hk2
  refine (get_any _ _ _ BD 0 4 _ HR2.out (by omega)).mono ?_
  rintro e w3 ⟨rfl, hb3⟩
  have hbb3 := below_then hbb2 hb3 hbb2.size
  have HR3 := Lib.hid (HR2.out.below hb3)
  have gp := cell_blk ((hb3.block _ l2).trans hk2)
  generalize P.get BD 0 4 = GT at *
  obtain ⟨nx, gf⟩ := GT
  clear hk2
  by_cases d1 : (kk : Int) = 5 <;> by_cases d2 : (lv : Int) = 0
  all_goals
    go_wp2_with fail
    all_goals
      first
        | (exfalso; omega)
        | (exact bodyPost_ret (v := .tuple #[.slice none 0 0, .int .i64 0, .int .i64 4]) (by simp [results, Tryz.results78, go_sem]) rfl ⟨rfl, hbb3⟩)
set_option maxRecDepth 100000 in
set_option maxHeartbeats 1600000 in
theorem part_next (a : Option Addr) (len cap : Nat) (l : List UInt8) (w : World) (hr : Rd w a len l) (hc : len ≤ cap) (he : P.openErr l = 0)
    (hk : P.openKind l = 5) (hv : P.openLevel l = 0) (h1 : 1 ≤ P.openCount l) (h2 : P.openCount l ≤ 244)
    (hx : ¬ ((P.get (P.openBody l) 0 4).1 = 0 ∨ 2 ≤ (P.get (P.openBody l) 0 4).1 ∧ (P.get (P.openBody l) 0 4).1 < 4096 ∧ P.openCount l = 244)) :
    Calls Tryz.prog 78 #[.slice a len cap] w fun e w' => e = .returned (.tuple #[.slice none 0 0, .int .i64 0, .int .i64 4]) ∧ Below w.heap.size w w' := by
  have HO := open_fun a len cap l w hr hc
  rw [he, show P.oK l = ((P.openKind l : Nat) : Int) by simp [P.oK, he], show P.oL l = ((P.openLevel l : Nat) : Int) by simp [P.oL, he], show P.oC l = ((P.openCount l : Nat) : Int) by simp [P.oC, he], show P.oB l = P.openBody l by simp [P.oB, he]] at HO
  have HO := Lib.hid HO
  have hBl := chbody_length he
  generalize P.openBody l = BD at *
  generalize P.openKind l = kk at *
  generalize P.openLevel l = lv at *
  generalize P.openCount l = ct at *
  have t1 : ((kk : Int) != 5) = false := by simp [hk]
  have t2 : ((lv : Int) != 0) = false := by simp [hv]
  clear hr he hk hv
  go_enter Tryz.func78, Tryz.ntmps78
  go_wp2_with fail
  refine HO.out.mono ?_
  rintro e w1 ⟨v, rfl, hown, hb1⟩
  obtain ⟨ga, pv, hv, hga, -, hr1, hpv⟩ := hown.pos (by omega)
  rw [hBl] at hv hr1 hpv
  subst hv
  have HR1 := Lib.hid hr1
  clear hown hr1
  have hb2 : Below w1.heap.size w1 (w1.alloc (.cells #[.int .i64 (kk : Nat), .int .i64 (lv : Nat), .int .i64 (ct : Nat), .slice (some ⟨ga, 0, none⟩) 248 pv] 89)) := (Below.refl _ w1).alloc (Nat.le_refl _) _
  have hk2 : (w1.alloc (.cells #[.int .i64 (kk : Nat), .int .i64 (lv : Nat), .int .i64 (ct : Nat), .slice (some ⟨ga, 0, none⟩) 248 pv] 89)).heap[w1.heap.size]? = _ := alloc_new _ _ _ rfl
  go_wp2_with fail
  generalize (w1.alloc (.cells #[.int .i64 (kk : Nat), .int .i64 (lv : Nat), .int .i64 (ct : Nat), .slice (some ⟨ga, 0, none⟩) 248 pv] 89)) = w2 at *
  have hbb2 := below_then hb1 hb2 hb1.size
  have HR2 := Lib.hid (HR1.out.below hb2)
  have l2 := lt_of_block hk2
  refine (get_any _ _ _ BD 0 4 _ HR2.out (by omega)).mono ?_
  rintro e w3 ⟨rfl, hb3⟩
  have hbb3 := below_then hbb2 hb3 hbb2.size
  have HR3 := Lib.hid (HR2.out.below hb3)
  have gp := cell_blk ((hb3.block _ l2).trans hk2)
  obtain ⟨nx, hnx⟩ : ∃ nx, nx = (P.get BD 0 4).1 := ⟨_, rfl⟩
  have hnn := get_nn BD 0 4
  rw [← hnx] at hnn hx ⊢
  have HNX := Lib.hid hnx
  generalize (P.get BD 0 4).2 = gf at *
  have c1 : decide ((ct : Int) < 1) = false := decide_eq_false (by omega)
  have c2 : decide (244 < (ct : Int)) = false := decide_eq_false (by omega)
  clear hnx hk2
  have d0 : (nx == 0) = false := by simp; omega
  have d0' : (nx != 0) = true := by simp; omega
  rcases hon : decide (2 ≤ nx ∧ nx < 4096) with _ | _
  case' false => have hon' := of_decide_eq_false hon
  case' true => have hon' := of_decide_eq_true hon
  all_goals
    go_wp2_with (go_at_call 92; refine (chon_any nx _).mono ?_; rintro e w9 ⟨rfl, rfl⟩; rw [hon])
    all_goals
      first
        | (exfalso; omega)
        | (exact bodyPost_ret (v := .tuple #[.slice none 0 0, .int .i64 0, .int .i64 4]) (by simp [results, Tryz.results78, go_sem]) rfl ⟨rfl, hbb3⟩)
set_option maxRecDepth 100000 in
set_option maxHeartbeats 1600000 in
theorem part_tail (a : Option Addr) (len cap : Nat) (l : List UInt8) (w : World) (hr : Rd w a len l) (hc : len ≤ cap) (he : P.openErr l = 0)
    (hk : P.openKind l = 5) (hv : P.openLevel l = 0) (h1 : 1 ≤ P.openCount l) (h2 : P.openCount l ≤ 244)
    (hx : (P.get (P.openBody l) 0 4).1 = 0 ∨ 2 ≤ (P.get (P.openBody l) 0 4).1 ∧ (P.get (P.openBody l) 0 4).1 < 4096 ∧ P.openCount l = 244)
    (hz : P.zeros ((P.openBody l).drop (4 + P.openCount l)) = false) :
    Calls Tryz.prog 78 #[.slice a len cap] w fun e w' => e = .returned (.tuple #[.slice none 0 0, .int .i64 0, .int .i64 4]) ∧ Below w.heap.size w w' := by
  have HO := open_fun a len cap l w hr hc
  rw [he, show P.oK l = ((P.openKind l : Nat) : Int) by simp [P.oK, he], show P.oL l = ((P.openLevel l : Nat) : Int) by simp [P.oL, he], show P.oC l = ((P.openCount l : Nat) : Int) by simp [P.oC, he], show P.oB l = P.openBody l by simp [P.oB, he]] at HO
  have HO := Lib.hid HO
  have hBl := chbody_length he
  generalize P.openBody l = BD at *
  generalize P.openKind l = kk at *
  generalize P.openLevel l = lv at *
  generalize P.openCount l = ct at *
  have t1 : ((kk : Int) != 5) = false := by simp [hk]
  have t2 : ((lv : Int) != 0) = false := by simp [hv]
  clear hr he hk hv
  go_enter Tryz.func78, Tryz.ntmps78
  go_wp2_with fail
  refine HO.out.mono ?_
  rintro e w1 ⟨v, rfl, hown, hb1⟩
  obtain ⟨ga, pv, hv, hga, -, hr1, hpv⟩ := hown.pos (by omega)
  rw [hBl] at hv hr1 hpv
  subst hv
  have HR1 := Lib.hid hr1
  clear hown hr1
  have hb2 : Below w1.heap.size w1 (w1.alloc (.cells #[.int .i64 (kk : Nat), .int .i64 (lv : Nat), .int .i64 (ct : Nat), .slice (some ⟨ga, 0, none⟩) 248 pv] 89)) := (Below.refl _ w1).alloc (Nat.le_refl _) _
  have hk2 : (w1.alloc (.cells #[.int .i64 (kk : Nat), .int .i64 (lv : Nat), .int .i64 (ct : Nat), .slice (some ⟨ga, 0, none⟩) 248 pv] 89)).heap[w1.heap.size]? = _ := alloc_new _ _ _ rfl
  go_wp2_with fail
  generalize (w1.alloc (.cells #[.int .i64 (kk : Nat), .int .i64 (lv : Nat), .int .i64 (ct : Nat), .slice (some ⟨ga, 0, none⟩) 248 pv] 89)) = w2 at *
  have hbb2 := below_then hb1 hb2 hb1.size
  have HR2 := Lib.hid (HR1.out.below hb2)
  have l2 := lt_of_block hk2
  refine (get_any _ _ _ BD 0 4 _ HR2.out (by omega)).mono ?_
  rintro e w3 ⟨rfl, hb3⟩
  have hbb3 := below_then hbb2 hb3 hbb2.size
  have HR3 := Lib.hid (HR2.out.below hb3)
  have gp := cell_blk ((hb3.block _ l2).trans hk2)
  obtain ⟨nx, hnx⟩ : ∃ nx, nx = (P.get BD 0 4).1 := ⟨_, rfl⟩
  have hnn := get_nn BD 0 4
  rw [← hnx] at hnn hx ⊢
  have HNX := Lib.hid hnx
  generalize (P.get BD 0 4).2 = gf at *
  have c1 : decide ((ct : Int) < 1) = false := decide_eq_false (by omega)
  have c2 : decide (244 < (ct : Int)) = false := decide_eq_false (by omega)
  clear hnx hk2
  obtain ⟨M, hM⟩ : ∃ M, M = 4 + ct := ⟨_, rfl⟩
  have hadd : (4 : Int) + (ct : Int) = (M : Int) := by omega
  have i1 : (0 : Int) ≤ (M : Int) := by omega
  have i2 : (M : Int) ≤ 248 := by omega
  have i3 : (4 : Int) ≤ (M : Int) := by omega
  have hm8 : M ≤ 248 := by omega
  have hm5 : 5 ≤ M := by omega
  rw [← hM] at hz
  have HM := Lib.hid hM
  clear hM
  rcases Nat.lt_or_ge M pv with hlg | hlg
  case inl =>
    have hcap : ¬ pv = M := by omega
    have hcap4 : ¬ pv = 4 := by omega
    have i4 : (M : Int) ≤ (pv : Int) := by omega
    have HD : Hid (Rd w3 (some ⟨ga, M, none⟩) (248 - M) (BD.drop M)) := by
      have h := HR3.out.drop M
      rw [add_lit _ M (by omega), Nat.zero_add] at h
      exact Lib.hid h
    rcases hx with h0 | ⟨ha, hb, hd⟩
    case inl =>
      have d0 : (nx == 0) = true := by simp [h0]
      have d0' : (nx != 0) = false := by simp [h0]
      have d4 : decide (4096 ≤ nx) = false := decide_eq_false (by omega)
      have d5 : (nx == 1) = false := by simp [h0]
      clear h0
      go_wp2_with fail
      refine (chnoughts_any _ _ _ (BD.drop M) _ HD.out).mono ?_
      rw [hz]
      rintro e w4 ⟨rfl, rfl⟩
      go_wp2
      all_goals
        first
          | (exfalso; omega)
          | (exact bodyPost_ret (v := .tuple #[.slice none 0 0, .int .i64 0, .int .i64 4]) (by simp [results, Tryz.results78, go_sem]) rfl ⟨rfl, hbb3⟩)
    case inr =>
      have d0' : (nx != 0) = true := by simp; omega
      have hon : decide (2 ≤ nx ∧ nx < 4096) = true := decide_eq_true ⟨ha, hb⟩
      have d3 : ((ct : Int) != 244) = false := by simp [hd]
      have d4 : decide (4096 ≤ nx) = false := decide_eq_false (by omega)
      have d5 : (nx == 1) = false := by simp; omega
      clear hd
      go_wp2_with (go_at_call 92; refine (chon_any nx _).mono ?_; rintro e w9 ⟨rfl, rfl⟩; rw [hon])
      refine (chnoughts_any _ _ _ (BD.drop M) _ HD.out).mono ?_
      rw [hz]
      rintro e w4 ⟨rfl, rfl⟩
      go_wp2
      all_goals
        first
          | (exfalso; omega)
          | (exact bodyPost_ret (v := .tuple #[.slice none 0 0, .int .i64 0, .int .i64 4]) (by simp [results, Tryz.results78, go_sem]) rfl ⟨rfl, hbb3⟩)
  case inr =>
    obtain rfl : pv = M := by omega
    have hcap4 : ¬ pv = 4 := by omega
    have HD : Hid (Rd w3 (some ⟨ga, 0, none⟩) 0 (BD.drop pv)) := by
      have e : BD.drop pv = [] := List.drop_eq_nil_of_le (by omega)
      rw [e]
      exact Lib.hid (Rd.nil _ _)
    rcases hx with h0 | ⟨ha, hb, hd⟩
    case inl =>
      have d0 : (nx == 0) = true := by simp [h0]
      have d0' : (nx != 0) = false := by simp [h0]
      have d4 : decide (4096 ≤ nx) = false := decide_eq_false (by omega)
      have d5 : (nx == 1) = false := by simp [h0]
      clear h0
      go_wp2_with fail
      refine (chnoughts_any _ _ _ (BD.drop pv) _ HD.out).mono ?_
      rw [hz]
      rintro e w4 ⟨rfl, rfl⟩
      go_wp2
      all_goals
        first
          | (exfalso; omega)
          | (exact bodyPost_ret (v := .tuple #[.slice none 0 0, .int .i64 0, .int .i64 4]) (by simp [results, Tryz.results78, go_sem]) rfl ⟨rfl, hbb3⟩)
    case inr =>
      have d0' : (nx != 0) = true := by simp; omega
      have hon : decide (2 ≤ nx ∧ nx < 4096) = true := decide_eq_true ⟨ha, hb⟩
      have d3 : ((ct : Int) != 244) = false := by simp [hd]
      have d4 : decide (4096 ≤ nx) = false := decide_eq_false (by omega)
      have d5 : (nx == 1) = false := by simp; omega
      clear hd
      go_wp2_with (go_at_call 92; refine (chon_any nx _).mono ?_; rintro e w9 ⟨rfl, rfl⟩; rw [hon])
      refine (chnoughts_any _ _ _ (BD.drop pv) _ HD.out).mono ?_
      rw [hz]
      rintro e w4 ⟨rfl, rfl⟩
      go_wp2
      all_goals
        first
          | (exfalso; omega)
          | (exact bodyPost_ret (v := .tuple #[.slice none 0 0, .int .i64 0, .int .i64 4]) (by simp [results, Tryz.results78, go_sem]) rfl ⟨rfl, hbb3⟩)
set_option maxRecDepth 100000 in
set_option maxHeartbeats 1600000 in
theorem part_good (a : Option Addr) (len cap : Nat) (l : List UInt8) (w : World) (hr : Rd w a len l) (hc : len ≤ cap) (he : P.openErr l = 0)
    (hk : P.openKind l = 5) (hv : P.openLevel l = 0) (h1 : 1 ≤ P.openCount l) (h2 : P.openCount l ≤ 244)
    (hx : (P.get (P.openBody l) 0 4).1 = 0 ∨ 2 ≤ (P.get (P.openBody l) 0 4).1 ∧ (P.get (P.openBody l) 0 4).1 < 4096 ∧ P.openCount l = 244)
    (hz : P.zeros ((P.openBody l).drop (4 + P.openCount l)) = true) :
    Calls Tryz.prog 78 #[.slice a len cap] w fun e w' => ∃ a c, e = .returned (.tuple #[.slice a (P.openCount l) c, .int .i64 (P.get (P.openBody l) 0 4).1, .int .i64 0]) ∧ Rd w' a (P.openCount l) (((P.openBody l).drop 4).take (P.openCount l)) ∧ P.openCount l ≤ c ∧ (∀ p, a = some p → w.heap.size ≤ p.block) ∧ Below w.heap.size w w' := by
  have HO := open_fun a len cap l w hr hc
  rw [he, show P.oK l = ((P.openKind l : Nat) : Int) by simp [P.oK, he], show P.oL l = ((P.openLevel l : Nat) : Int) by simp [P.oL, he], show P.oC l = ((P.openCount l : Nat) : Int) by simp [P.oC, he], show P.oB l = P.openBody l by simp [P.oB, he]] at HO
  have HO := Lib.hid HO
  have hBl := chbody_length he
  generalize P.openBody l = BD at *
  generalize P.openKind l = kk at *
  generalize P.openLevel l = lv at *
  generalize P.openCount l = ct at *
  have t1 : ((kk : Int) != 5) = false := by simp [hk]
  have t2 : ((lv : Int) != 0) = false := by simp [hv]
  clear hr he hk hv
  go_enter Tryz.func78, Tryz.ntmps78
  go_wp2_with fail
  refine HO.out.mono ?_
  rintro e w1 ⟨v, rfl, hown, hb1⟩
  obtain ⟨ga, pv, hv, hga, -, hr1, hpv⟩ := hown.pos (by omega)
  rw [hBl] at hv hr1 hpv
  subst hv
  have HR1 := Lib.hid hr1
  clear hown hr1
  have hb2 : Below w1.heap.size w1 (w1.alloc (.cells #[.int .i64 (kk : Nat), .int .i64 (lv : Nat), .int .i64 (ct : Nat), .slice (some ⟨ga, 0, none⟩) 248 pv] 89)) := (Below.refl _ w1).alloc (Nat.le_refl _) _
  have hk2 : (w1.alloc (.cells #[.int .i64 (kk : Nat), .int .i64 (lv : Nat), .int .i64 (ct : Nat), .slice (some ⟨ga, 0, none⟩) 248 pv] 89)).heap[w1.heap.size]? = _ := alloc_new _ _ _ rfl
  go_wp2_with fail
  generalize (w1.alloc (.cells #[.int .i64 (kk : Nat), .int .i64 (lv : Nat), .int .i64 (ct : Nat), .slice (some ⟨ga, 0, none⟩) 248 pv] 89)) = w2 at *
  have hbb2 := below_then hb1 hb2 hb1.size
  have HR2 := Lib.hid (HR1.out.below hb2)
  have l2 := lt_of_block hk2
  refine (get_any _ _ _ BD 0 4 _ HR2.out (by omega)).mono ?_
  rintro e w3 ⟨rfl, hb3⟩
  have hbb3 := below_then hbb2 hb3 hbb2.size
  have HR3 := Lib.hid (HR2.out.below hb3)
  have gp := cell_blk ((hb3.block _ l2).trans hk2)
  obtain ⟨nx, hnx⟩ : ∃ nx, nx = (P.get BD 0 4).1 := ⟨_, rfl⟩
  have hnn := get_nn BD 0 4
  rw [← hnx] at hnn hx ⊢
  have HNX := Lib.hid hnx
  generalize (P.get BD 0 4).2 = gf at *
  have c1 : decide ((ct : Int) < 1) = false := decide_eq_false (by omega)
  have c2 : decide (244 < (ct : Int)) = false := decide_eq_false (by omega)
  clear hnx hk2
  obtain ⟨M, hM⟩ : ∃ M, M = 4 + ct := ⟨_, rfl⟩
  have hadd : (4 : Int) + (ct : Int) = (M : Int) := by omega
  have i1 : (0 : Int) ≤ (M : Int) := by omega
  have i2 : (M : Int) ≤ 248 := by omega
  have i3 : (4 : Int) ≤ (M : Int) := by omega
  have hm8 : M ≤ 248 := by omega
  have hm5 : 5 ≤ M := by omega
  rw [← hM] at hz
  have HM := Lib.hid hM
  clear hM
  rcases Nat.lt_or_ge M pv with hlg | hlg
  case inl =>
    have hcap : ¬ pv = M := by omega
    have hcap4 : ¬ pv = 4 := by omega
    have i4 : (M : Int) ≤ (pv : Int) := by omega
    have HD : Hid (Rd w3 (some ⟨ga, M, none⟩) (248 - M) (BD.drop M)) := by
      have h := HR3.out.drop M
      rw [add_lit _ M (by omega), Nat.zero_add] at h
      exact Lib.hid h
    rcases hx with h0 | ⟨ha, hb, hd⟩
    case inl =>
      have d0 : (nx == 0) = true := by simp [h0]
      have d0' : (nx != 0) = false := by simp [h0]
      have d4 : decide (4096 ≤ nx) = false := decide_eq_false (by omega)
      have d5 : (nx == 1) = false := by simp [h0]
      clear h0
      go_wp2_with fail
      refine (chnoughts_any _ _ _ (BD.drop M) _ HD.out).mono ?_
      rw [hz]
      rintro e w4 ⟨rfl, rfl⟩
      go_wp2
      all_goals
        first
          | (exfalso; omega)
          | (exact bodyPost_ret (v := .tuple #[.slice (some ⟨ga, 4, none⟩) (M - 4) (M - 4), .int .i64 nx, .int .i64 0]) (by simp [results, Tryz.results78, go_sem]) rfl ⟨some ⟨ga, 4, none⟩, ct, by rw [show M - 4 = ct by (have := HM.out; omega), HNX.out], by have h := (HR3.out.drop 4).take ct (by omega); rw [add_lit _ 4 (by omega)] at h; exact h, by have := HM.out; omega, (fun p hp => by cases hp; exact hga), hbb3⟩)
    case inr =>
      have d0' : (nx != 0) = true := by simp; omega
      have hon : decide (2 ≤ nx ∧ nx < 4096) = true := decide_eq_true ⟨ha, hb⟩
      have d3 : ((ct : Int) != 244) = false := by simp [hd]
      have d4 : decide (4096 ≤ nx) = false := decide_eq_false (by omega)
      have d5 : (nx == 1) = false := by simp; omega
      clear hd
      go_wp2_with (go_at_call 92; refine (chon_any nx _).mono ?_; rintro e w9 ⟨rfl, rfl⟩; rw [hon])
      refine (chnoughts_any _ _ _ (BD.drop M) _ HD.out).mono ?_
      rw [hz]
      rintro e w4 ⟨rfl, rfl⟩
      go_wp2
      all_goals
        first
          | (exfalso; omega)
          | (exact bodyPost_ret (v := .tuple #[.slice (some ⟨ga, 4, none⟩) (M - 4) (M - 4), .int .i64 nx, .int .i64 0]) (by simp [results, Tryz.results78, go_sem]) rfl ⟨some ⟨ga, 4, none⟩, ct, by rw [show M - 4 = ct by (have := HM.out; omega), HNX.out], by have h := (HR3.out.drop 4).take ct (by omega); rw [add_lit _ 4 (by omega)] at h; exact h, by have := HM.out; omega, (fun p hp => by cases hp; exact hga), hbb3⟩)
  case inr =>
    obtain rfl : pv = M := by omega
    have hcap4 : ¬ pv = 4 := by omega
    have HD : Hid (Rd w3 (some ⟨ga, 0, none⟩) 0 (BD.drop pv)) := by
      have e : BD.drop pv = [] := List.drop_eq_nil_of_le (by omega)
      rw [e]
      exact Lib.hid (Rd.nil _ _)
    rcases hx with h0 | ⟨ha, hb, hd⟩
    case inl =>
      have d0 : (nx == 0) = true := by simp [h0]
      have d0' : (nx != 0) = false := by simp [h0]
      have d4 : decide (4096 ≤ nx) = false := decide_eq_false (by omega)
      have d5 : (nx == 1) = false := by simp [h0]
      clear h0
      go_wp2_with fail
      refine (chnoughts_any _ _ _ (BD.drop pv) _ HD.out).mono ?_
      rw [hz]
      rintro e w4 ⟨rfl, rfl⟩
      go_wp2
      all_goals
        first
          | (exfalso; omega)
          | (exact bodyPost_ret (v := .tuple #[.slice (some ⟨ga, 4, none⟩) (pv - 4) (pv - 4), .int .i64 nx, .int .i64 0]) (by simp [results, Tryz.results78, go_sem]) rfl ⟨some ⟨ga, 4, none⟩, ct, by rw [show pv - 4 = ct by (have := HM.out; omega), HNX.out], by have h := (HR3.out.drop 4).take ct (by omega); rw [add_lit _ 4 (by omega)] at h; exact h, by have := HM.out; omega, (fun p hp => by cases hp; exact hga), hbb3⟩)
    case inr =>
      have d0' : (nx != 0) = true := by simp; omega
      have hon : decide (2 ≤ nx ∧ nx < 4096) = true := decide_eq_true ⟨ha, hb⟩
      have d3 : ((ct : Int) != 244) = false := by simp [hd]
      have d4 : decide (4096 ≤ nx) = false := decide_eq_false (by omega)
      have d5 : (nx == 1) = false := by simp; omega
      clear hd
      go_wp2_with (go_at_call 92; refine (chon_any nx _).mono ?_; rintro e w9 ⟨rfl, rfl⟩; rw [hon])
      refine (chnoughts_any _ _ _ (BD.drop pv) _ HD.out).mono ?_
      rw [hz]
      rintro e w4 ⟨rfl, rfl⟩
      go_wp2
      all_goals
        first
          | (exfalso; omega)
          | (exact bodyPost_ret (v := .tuple #[.slice (some ⟨ga, 4, none⟩) (pv - 4) (pv - 4), .int .i64 nx, .int .i64 0]) (by simp [results, Tryz.results78, go_sem]) rfl ⟨some ⟨ga, 4, none⟩, ct, by rw [show pv - 4 = ct by (have := HM.out; omega), HNX.out], by have h := (HR3.out.drop 4).take ct (by omega); rw [add_lit _ 4 (by omega)] at h; exact h, by have := HM.out; omega, (fun p hp => by cases hp; exact hga), hbb3⟩)
theorem part_fun (a : Option Addr) (len cap : Nat) (l : List UInt8) (w : World) (hr : Rd w a len l) (hc : len ≤ cap) :
    Calls Tryz.prog 78 #[.slice a len cap] w fun e w' => PartEnd w l e w' := by
  by_cases he : P.openErr l = 0
  case neg => exact (part_open a len cap l w hr hc he).mono fun e w' ⟨h1, h2⟩ => by subst h1; exact PartEnd.empty (pt_open he) h2
  by_cases hf : P.openKind l = 5 ∧ P.openLevel l = 0 ∧ 1 ≤ P.openCount l ∧ P.openCount l ≤ 244
  case neg => exact (part_form a len cap l w hr hc he hf).mono fun e w' ⟨h1, h2⟩ => by subst h1; exact PartEnd.empty (pt_bad he (fun h => hf ⟨h.1, h.2.1, h.2.2.1, h.2.2.2.1⟩)) h2
  obtain ⟨hk, hv, h1, h2⟩ := hf
  by_cases hx : ((P.get (P.openBody l) 0 4).1 = 0 ∨ 2 ≤ (P.get (P.openBody l) 0 4).1 ∧ (P.get (P.openBody l) 0 4).1 < 4096 ∧ P.openCount l = 244)
  case neg => exact (part_next a len cap l w hr hc he hk hv h1 h2 hx).mono fun e w' ⟨h1, h2⟩ => by subst h1; exact PartEnd.empty (pt_bad he (fun h => hx h.2.2.2.2.1)) h2
  rcases hz : P.zeros ((P.openBody l).drop (4 + P.openCount l)) with _ | _
  · exact (part_tail a len cap l w hr hc he hk hv h1 h2 hx hz).mono fun e w' ⟨h1, h2⟩ => by subst h1; exact PartEnd.empty (pt_bad he (fun h => by have := h.2.2.2.2.2; rw [hz] at this; cases this)) h2
  · obtain ⟨g1, g2, g3⟩ := pt_good he ⟨hk, hv, h1, h2, hx, hz⟩
    exact (part_good a len cap l w hr hc he hk hv h1 h2 hx hz).mono fun e w' ⟨a', c', h1, h2, h3, h4, h5⟩ => ⟨a', _, c', by rw [h1, g1, g3]; rfl, by rw [g2]; exact h2, h3, h4, h5⟩
end Go.Proofs.YtnjpaanjgbfbaaaGreat
/- The walk of chapter 11: the reference's Part. Printed by gen_chb.py. -/
namespace Go.Proofs.YtnjpaanjgbfbaaaGreat
set_option linter.unusedVariables false
set_option linter.unusedSimpArgs false
open Go.RowKit

set_option maxRecDepth 100000 in
set_option maxHeartbeats 1600000 in
theorem rpart_open (a : Option Addr) (len cap : Nat) (l : List UInt8) (w : World) (hr : Rd w a len l) (hc : len ≤ cap) (he : P.openErr l ≠ 0) :
    Calls Tryz.prog 70 #[.slice a len cap] w fun e w' => e = .returned (.tuple #[.slice none 0 0, .int .i64 0, .int .i64 (P.openErr l)]) ∧ Below w.heap.size w w' := by
  have c1 : (P.openErr l != 0) = true := by simpa using he
  have HO := Lib.hid (ropen_fun a len cap l w hr hc)
  generalize P.openErr l = E at *
  clear hr he
  go_enter Tryz.func70, Tryz.ntmps70
  go_wp2_with fail
  refine HO.out.mono ?_
  rintro e w1 ⟨v, rfl, hown, hb1⟩
  obtain ⟨av, pv, hv, -, -, -, -⟩ := hown.form
  subst hv
  clear hown
  go_wp2
  exact bodyPost_ret (v := .tuple #[.slice none 0 0, .int .i64 0, .int .i64 E]) (by simp [results, Tryz.results70, go_sem]) rfl ⟨rfl, hb1.alloc hb1.size _⟩
set_option maxRecDepth 100000 in
set_option maxHeartbeats 1600000 in
theorem rpart_form (a : Option Addr) (len cap : Nat) (l : List UInt8) (w : World) (hr : Rd w a len l) (hc : len ≤ cap) (he : P.openErr l = 0)
    (hf : ¬ (P.openKind l = 5 ∧ P.openLevel l = 0 ∧ 1 ≤ P.openCount l ∧ P.openCount l ≤ 244)) :
    Calls Tryz.prog 70 #[.slice a len cap] w fun e w' => e = .returned (.tuple #[.slice none 0 0, .int .i64 0, .int .i64 4]) ∧ Below w.heap.size w w' := by
  have HO := ropen_fun a len cap l w hr hc
  rw [he, show P.oK l = ((P.openKind l : Nat) : Int) by simp [P.oK, he], show P.oL l = ((P.openLevel l : Nat) : Int) by simp [P.oL, he], show P.oC l = ((P.openCount l : Nat) : Int) by simp [P.oC, he], show P.oB l = P.openBody l by simp [P.oB, he]] at HO
  have HO := Lib.hid HO
  have hBl := chbody_length he
  generalize P.openBody l = BD at *
  generalize P.openKind l = kk at *
  generalize P.openLevel l = lv at *
  generalize P.openCount l = ct at *
  clear hr he
  go_enter Tryz.func70, Tryz.ntmps70
  go_wp2_with fail
  refine HO.out.mono ?_
  rintro e w1 ⟨v, rfl, hown, hb1⟩
  obtain ⟨ga, pv, hv, hga, -, hr1, hpv⟩ := hown.pos (by omega)
  rw [hBl] at hv hr1 hpv
  subst hv
  have HR1 := Lib.hid hr1
  clear hown hr1
  have hb2 : Below w1.heap.size w1 (w1.alloc (.cells #[.int .i64 (kk : Nat), .int .i64 (lv : Nat), .int .i64 (ct : Nat), .slice (some ⟨ga, 0, none⟩) 248 pv] 89)) := (Below.refl _ w1).alloc (Nat.le_refl _) _
  have hk2 : (w1.alloc (.cells #[.int .i64 (kk : Nat), .int .i64 (lv : Nat), .int .i64 (ct : Nat), .slice (some ⟨ga, 0, none⟩) 248 pv] 89)).heap[w1.heap.size]? = _ := alloc_new _ _ _ rfl
  go_wp2_with fail
  generalize (w1.alloc (.cells #[.int .i64 (kk : Nat), .int .i64 (lv : Nat), .int .i64 (ct : Nat), .slice (some ⟨ga, 0, none⟩) 248 pv] 89)) = w2 at *
  have hbb2 := below_then hb1 hb2 hb1.size
  have HR2 := Lib.hid (HR1.out.below hb2)
  have l2 := lt_of_block hk2
  refine (refget_any _ _ _ BD 0 4 _ HR2.out (by omega)).mono ?_
  rintro e w3 ⟨rfl, rfl⟩
  have hbb3 := hbb2
  have HR3 := HR2
  have gp := cell_blk hk2
  generalize P.get BD 0 4 = GT at *
  obtain ⟨nx, gf⟩ := GT
  clear hk2
  by_cases d1 : (kk : Int) = 5 <;> by_cases d2 : (lv : Int) = 0
  all_goals
    go_wp2_with fail
    all_goals
      first
        | (exfalso; omega)
        | (exact bodyPost_ret (v := .tuple #[.slice none 0 0, .int .i64 0, .int .i64 4]) (by simp [results, Tryz.results70, go_sem]) rfl ⟨rfl, hbb3⟩)
set_option maxRecDepth 100000 in
set_option maxHeartbeats 1600000 in
theorem rpart_next (a : Option Addr) (len cap : Nat) (l : List UInt8) (w : World) (hr : Rd w a len l) (hc : len ≤ cap) (he : P.openErr l = 0)
    (hk : P.openKind l = 5) (hv : P.openLevel l = 0) (h1 : 1 ≤ P.openCount l) (h2 : P.openCount l ≤ 244)
    (hx : ¬ ((P.get (P.openBody l) 0 4).1 = 0 ∨ 2 ≤ (P.get (P.openBody l) 0 4).1 ∧ (P.get (P.openBody l) 0 4).1 < 4096 ∧ P.openCount l = 244)) :
    Calls Tryz.prog 70 #[.slice a len cap] w fun e w' => e = .returned (.tuple #[.slice none 0 0, .int .i64 0, .int .i64 4]) ∧ Below w.heap.size w w' := by
  have HO := ropen_fun a len cap l w hr hc
  rw [he, show P.oK l = ((P.openKind l : Nat) : Int) by simp [P.oK, he], show P.oL l = ((P.openLevel l : Nat) : Int) by simp [P.oL, he], show P.oC l = ((P.openCount l : Nat) : Int) by simp [P.oC, he], show P.oB l = P.openBody l by simp [P.oB, he]] at HO
  have HO := Lib.hid HO
  have hBl := chbody_length he
  generalize P.openBody l = BD at *
  generalize P.openKind l = kk at *
  generalize P.openLevel l = lv at *
  generalize P.openCount l = ct at *
  have t1 : ((kk : Int) != 5) = false := by simp [hk]
  have t2 : ((lv : Int) != 0) = false := by simp [hv]
  clear hr he hk hv
  go_enter Tryz.func70, Tryz.ntmps70
  go_wp2_with fail
  refine HO.out.mono ?_
  rintro e w1 ⟨v, rfl, hown, hb1⟩
  obtain ⟨ga, pv, hv, hga, -, hr1, hpv⟩ := hown.pos (by omega)
  rw [hBl] at hv hr1 hpv
  subst hv
  have HR1 := Lib.hid hr1
  clear hown hr1
  have hb2 : Below w1.heap.size w1 (w1.alloc (.cells #[.int .i64 (kk : Nat), .int .i64 (lv : Nat), .int .i64 (ct : Nat), .slice (some ⟨ga, 0, none⟩) 248 pv] 89)) := (Below.refl _ w1).alloc (Nat.le_refl _) _
  have hk2 : (w1.alloc (.cells #[.int .i64 (kk : Nat), .int .i64 (lv : Nat), .int .i64 (ct : Nat), .slice (some ⟨ga, 0, none⟩) 248 pv] 89)).heap[w1.heap.size]? = _ := alloc_new _ _ _ rfl
  go_wp2_with fail
  generalize (w1.alloc (.cells #[.int .i64 (kk : Nat), .int .i64 (lv : Nat), .int .i64 (ct : Nat), .slice (some ⟨ga, 0, none⟩) 248 pv] 89)) = w2 at *
  have hbb2 := below_then hb1 hb2 hb1.size
  have HR2 := Lib.hid (HR1.out.below hb2)
  have l2 := lt_of_block hk2
  refine (refget_any _ _ _ BD 0 4 _ HR2.out (by omega)).mono ?_
  rintro e w3 ⟨rfl, rfl⟩
  have hbb3 := hbb2
  have HR3 := HR2
  have gp := cell_blk hk2
  obtain ⟨nx, hnx⟩ : ∃ nx, nx = (P.get BD 0 4).1 := ⟨_, rfl⟩
  have hnn := get_nn BD 0 4
  rw [← hnx] at hnn hx ⊢
  have HNX := Lib.hid hnx
  generalize (P.get BD 0 4).2 = gf at *
  have c1 : decide ((ct : Int) < 1) = false := decide_eq_false (by omega)
  have c2 : decide (244 < (ct : Int)) = false := decide_eq_false (by omega)
  clear hnx hk2
  have d0 : (nx == 0) = false := by simp; omega
  have d0' : (nx != 0) = true := by simp; omega
  rcases hon : decide (2 ≤ nx ∧ nx < 4096) with _ | _
  case' false => have hon' := of_decide_eq_false hon
  case' true => have hon' := of_decide_eq_true hon
  all_goals
    go_wp2_with fail
    all_goals
      first
        | (exfalso; omega)
        | (exact bodyPost_ret (v := .tuple #[.slice none 0 0, .int .i64 0, .int .i64 4]) (by simp [results, Tryz.results70, go_sem]) rfl ⟨rfl, hbb3⟩)
set_option maxRecDepth 100000 in
set_option maxHeartbeats 1600000 in
theorem rpart_tail (a : Option Addr) (len cap : Nat) (l : List UInt8) (w : World) (hr : Rd w a len l) (hc : len ≤ cap) (he : P.openErr l = 0)
    (hk : P.openKind l = 5) (hv : P.openLevel l = 0) (h1 : 1 ≤ P.openCount l) (h2 : P.openCount l ≤ 244)
    (hx : (P.get (P.openBody l) 0 4).1 = 0 ∨ 2 ≤ (P.get (P.openBody l) 0 4).1 ∧ (P.get (P.openBody l) 0 4).1 < 4096 ∧ P.openCount l = 244)
    (hz : P.zeros ((P.openBody l).drop (4 + P.openCount l)) = false) :
    Calls Tryz.prog 70 #[.slice a len cap] w fun e w' => e = .returned (.tuple #[.slice none 0 0, .int .i64 0, .int .i64 4]) ∧ Below w.heap.size w w' := by
  have HO := ropen_fun a len cap l w hr hc
  rw [he, show P.oK l = ((P.openKind l : Nat) : Int) by simp [P.oK, he], show P.oL l = ((P.openLevel l : Nat) : Int) by simp [P.oL, he], show P.oC l = ((P.openCount l : Nat) : Int) by simp [P.oC, he], show P.oB l = P.openBody l by simp [P.oB, he]] at HO
  have HO := Lib.hid HO
  have hBl := chbody_length he
  generalize P.openBody l = BD at *
  generalize P.openKind l = kk at *
  generalize P.openLevel l = lv at *
  generalize P.openCount l = ct at *
  have t1 : ((kk : Int) != 5) = false := by simp [hk]
  have t2 : ((lv : Int) != 0) = false := by simp [hv]
  clear hr he hk hv
  go_enter Tryz.func70, Tryz.ntmps70
  go_wp2_with fail
  refine HO.out.mono ?_
  rintro e w1 ⟨v, rfl, hown, hb1⟩
  obtain ⟨ga, pv, hv, hga, -, hr1, hpv⟩ := hown.pos (by omega)
  rw [hBl] at hv hr1 hpv
  subst hv
  have HR1 := Lib.hid hr1
  clear hown hr1
  have hb2 : Below w1.heap.size w1 (w1.alloc (.cells #[.int .i64 (kk : Nat), .int .i64 (lv : Nat), .int .i64 (ct : Nat), .slice (some ⟨ga, 0, none⟩) 248 pv] 89)) := (Below.refl _ w1).alloc (Nat.le_refl _) _
  have hk2 : (w1.alloc (.cells #[.int .i64 (kk : Nat), .int .i64 (lv : Nat), .int .i64 (ct : Nat), .slice (some ⟨ga, 0, none⟩) 248 pv] 89)).heap[w1.heap.size]? = _ := alloc_new _ _ _ rfl
  go_wp2_with fail
  generalize (w1.alloc (.cells #[.int .i64 (kk : Nat), .int .i64 (lv : Nat), .int .i64 (ct : Nat), .slice (some ⟨ga, 0, none⟩) 248 pv] 89)) = w2 at *
  have hbb2 := below_then hb1 hb2 hb1.size
  have HR2 := Lib.hid (HR1.out.below hb2)
  have l2 := lt_of_block hk2
  refine (refget_any _ _ _ BD 0 4 _ HR2.out (by omega)).mono ?_
  rintro e w3 ⟨rfl, rfl⟩
  have hbb3 := hbb2
  have HR3 := HR2
  have gp := cell_blk hk2
  obtain ⟨nx, hnx⟩ : ∃ nx, nx = (P.get BD 0 4).1 := ⟨_, rfl⟩
  have hnn := get_nn BD 0 4
  rw [← hnx] at hnn hx ⊢
  have HNX := Lib.hid hnx
  generalize (P.get BD 0 4).2 = gf at *
  have c1 : decide ((ct : Int) < 1) = false := decide_eq_false (by omega)
  have c2 : decide (244 < (ct : Int)) = false := decide_eq_false (by omega)
  clear hnx hk2
  obtain ⟨M, hM⟩ : ∃ M, M = 4 + ct := ⟨_, rfl⟩
  have hadd : (4 : Int) + (ct : Int) = (M : Int) := by omega
  have i1 : (0 : Int) ≤ (M : Int) := by omega
  have i2 : (M : Int) ≤ 248 := by omega
  have i3 : (4 : Int) ≤ (M : Int) := by omega
  have hm8 : M ≤ 248 := by omega
  have hm5 : 5 ≤ M := by omega
  rw [← hM] at hz
  have HM := Lib.hid hM
  clear hM
  rcases Nat.lt_or_ge M pv with hlg | hlg
  case inl =>
    have hcap : ¬ pv = M := by omega
    have hcap4 : ¬ pv = 4 := by omega
    have i4 : (M : Int) ≤ (pv : Int) := by omega
    rcases hx with h0 | ⟨ha, hb, hd⟩
    case inl =>
      have d0 : (nx == 0) = true := by simp [h0]
      have d0' : (nx != 0) = false := by simp [h0]
      have d4 : decide (4096 ≤ nx) = false := decide_eq_false (by omega)
      have d5 : (nx == 1) = false := by simp [h0]
      clear h0
      go_wp2_with fail
      refine (rzeros_any _ _ _ BD M _ HR3.out (by omega)).mono ?_
      rw [hz]
      rintro e w4 ⟨rfl, rfl⟩
      go_wp2
      all_goals
        first
          | (exfalso; omega)
          | (exact bodyPost_ret (v := .tuple #[.slice none 0 0, .int .i64 0, .int .i64 4]) (by simp [results, Tryz.results70, go_sem]) rfl ⟨rfl, hbb3⟩)
    case inr =>
      have d0' : (nx != 0) = true := by simp; omega
      have hon : decide (2 ≤ nx ∧ nx < 4096) = true := decide_eq_true ⟨ha, hb⟩
      have d3 : ((ct : Int) != 244) = false := by simp [hd]
      have d4 : decide (4096 ≤ nx) = false := decide_eq_false (by omega)
      have d5 : (nx == 1) = false := by simp; omega
      clear hd
      go_wp2_with fail
      refine (rzeros_any _ _ _ BD M _ HR3.out (by omega)).mono ?_
      rw [hz]
      rintro e w4 ⟨rfl, rfl⟩
      go_wp2
      all_goals
        first
          | (exfalso; omega)
          | (exact bodyPost_ret (v := .tuple #[.slice none 0 0, .int .i64 0, .int .i64 4]) (by simp [results, Tryz.results70, go_sem]) rfl ⟨rfl, hbb3⟩)
  case inr =>
    obtain rfl : pv = M := by omega
    have hcap4 : ¬ pv = 4 := by omega
    rcases hx with h0 | ⟨ha, hb, hd⟩
    case inl =>
      have d0 : (nx == 0) = true := by simp [h0]
      have d0' : (nx != 0) = false := by simp [h0]
      have d4 : decide (4096 ≤ nx) = false := decide_eq_false (by omega)
      have d5 : (nx == 1) = false := by simp [h0]
      clear h0
      go_wp2_with fail
      refine (rzeros_any _ _ _ BD pv _ HR3.out (by omega)).mono ?_
      rw [hz]
      rintro e w4 ⟨rfl, rfl⟩
      go_wp2
      all_goals
        first
          | (exfalso; omega)
          | (exact bodyPost_ret (v := .tuple #[.slice none 0 0, .int .i64 0, .int .i64 4]) (by simp [results, Tryz.results70, go_sem]) rfl ⟨rfl, hbb3⟩)
    case inr =>
      have d0' : (nx != 0) = true := by simp; omega
      have hon : decide (2 ≤ nx ∧ nx < 4096) = true := decide_eq_true ⟨ha, hb⟩
      have d3 : ((ct : Int) != 244) = false := by simp [hd]
      have d4 : decide (4096 ≤ nx) = false := decide_eq_false (by omega)
      have d5 : (nx == 1) = false := by simp; omega
      clear hd
      go_wp2_with fail
      refine (rzeros_any _ _ _ BD pv _ HR3.out (by omega)).mono ?_
      rw [hz]
      rintro e w4 ⟨rfl, rfl⟩
      go_wp2
      all_goals
        first
          | (exfalso; omega)
          | (exact bodyPost_ret (v := .tuple #[.slice none 0 0, .int .i64 0, .int .i64 4]) (by simp [results, Tryz.results70, go_sem]) rfl ⟨rfl, hbb3⟩)
set_option maxRecDepth 100000 in
set_option maxHeartbeats 1600000 in
theorem rpart_good (a : Option Addr) (len cap : Nat) (l : List UInt8) (w : World) (hr : Rd w a len l) (hc : len ≤ cap) (he : P.openErr l = 0)
    (hk : P.openKind l = 5) (hv : P.openLevel l = 0) (h1 : 1 ≤ P.openCount l) (h2 : P.openCount l ≤ 244)
    (hx : (P.get (P.openBody l) 0 4).1 = 0 ∨ 2 ≤ (P.get (P.openBody l) 0 4).1 ∧ (P.get (P.openBody l) 0 4).1 < 4096 ∧ P.openCount l = 244)
    (hz : P.zeros ((P.openBody l).drop (4 + P.openCount l)) = true) :
    Calls Tryz.prog 70 #[.slice a len cap] w fun e w' => ∃ a c, e = .returned (.tuple #[.slice a (P.openCount l) c, .int .i64 (P.get (P.openBody l) 0 4).1, .int .i64 0]) ∧ Rd w' a (P.openCount l) (((P.openBody l).drop 4).take (P.openCount l)) ∧ P.openCount l ≤ c ∧ (∀ p, a = some p → w.heap.size ≤ p.block) ∧ Below w.heap.size w w' := by
  have HO := ropen_fun a len cap l w hr hc
  rw [he, show P.oK l = ((P.openKind l : Nat) : Int) by simp [P.oK, he], show P.oL l = ((P.openLevel l : Nat) : Int) by simp [P.oL, he], show P.oC l = ((P.openCount l : Nat) : Int) by simp [P.oC, he], show P.oB l = P.openBody l by simp [P.oB, he]] at HO
  have HO := Lib.hid HO
  have hBl := chbody_length he
  generalize P.openBody l = BD at *
  generalize P.openKind l = kk at *
  generalize P.openLevel l = lv at *
  generalize P.openCount l = ct at *
  have t1 : ((kk : Int) != 5) = false := by simp [hk]
  have t2 : ((lv : Int) != 0) = false := by simp [hv]
  clear hr he hk hv
  go_enter Tryz.func70, Tryz.ntmps70
  go_wp2_with fail
  refine HO.out.mono ?_
  rintro e w1 ⟨v, rfl, hown, hb1⟩
  obtain ⟨ga, pv, hv, hga, -, hr1, hpv⟩ := hown.pos (by omega)
  rw [hBl] at hv hr1 hpv
  subst hv
  have HR1 := Lib.hid hr1
  clear hown hr1
  have hb2 : Below w1.heap.size w1 (w1.alloc (.cells #[.int .i64 (kk : Nat), .int .i64 (lv : Nat), .int .i64 (ct : Nat), .slice (some ⟨ga, 0, none⟩) 248 pv] 89)) := (Below.refl _ w1).alloc (Nat.le_refl _) _
  have hk2 : (w1.alloc (.cells #[.int .i64 (kk : Nat), .int .i64 (lv : Nat), .int .i64 (ct : Nat), .slice (some ⟨ga, 0, none⟩) 248 pv] 89)).heap[w1.heap.size]? = _ := alloc_new _ _ _ rfl
  go_wp2_with fail
  generalize (w1.alloc (.cells #[.int .i64 (kk : Nat), .int .i64 (lv : Nat), .int .i64 (ct : Nat), .slice (some ⟨ga, 0, none⟩) 248 pv] 89)) = w2 at *
  have hbb2 := below_then hb1 hb2 hb1.size
  have HR2 := Lib.hid (HR1.out.below hb2)
  have l2 := lt_of_block hk2
  refine (refget_any _ _ _ BD 0 4 _ HR2.out (by omega)).mono ?_
  rintro e w3 ⟨rfl, rfl⟩
  have hbb3 := hbb2
  have HR3 := HR2
  have gp := cell_blk hk2
  obtain ⟨nx, hnx⟩ : ∃ nx, nx = (P.get BD 0 4).1 := ⟨_, rfl⟩
  have hnn := get_nn BD 0 4
  rw [← hnx] at hnn hx ⊢
  have HNX := Lib.hid hnx
  generalize (P.get BD 0 4).2 = gf at *
  have c1 : decide ((ct : Int) < 1) = false := decide_eq_false (by omega)
  have c2 : decide (244 < (ct : Int)) = false := decide_eq_false (by omega)
  clear hnx hk2
  obtain ⟨M, hM⟩ : ∃ M, M = 4 + ct := ⟨_, rfl⟩
  have hadd : (4 : Int) + (ct : Int) = (M : Int) := by omega
  have i1 : (0 : Int) ≤ (M : Int) := by omega
  have i2 : (M : Int) ≤ 248 := by omega
  have i3 : (4 : Int) ≤ (M : Int) := by omega
  have hm8 : M ≤ 248 := by omega
  have hm5 : 5 ≤ M := by omega
  rw [← hM] at hz
  have HM := Lib.hid hM
  clear hM
  rcases Nat.lt_or_ge M pv with hlg | hlg
  case inl =>
    have hcap : ¬ pv = M := by omega
    have hcap4 : ¬ pv = 4 := by omega
    have i4 : (M : Int) ≤ (pv : Int) := by omega
    rcases hx with h0 | ⟨ha, hb, hd⟩
    case inl =>
      have d0 : (nx == 0) = true := by simp [h0]
      have d0' : (nx != 0) = false := by simp [h0]
      have d4 : decide (4096 ≤ nx) = false := decide_eq_false (by omega)
      have d5 : (nx == 1) = false := by simp [h0]
      clear h0
      go_wp2_with fail
      refine (rzeros_any _ _ _ BD M _ HR3.out (by omega)).mono ?_
      rw [hz]
      rintro e w4 ⟨rfl, rfl⟩
      go_wp2
      all_goals
        first
          | (exfalso; omega)
          | (exact bodyPost_ret (v := .tuple #[.slice (some ⟨ga, 4, none⟩) (M - 4) (pv - 4), .int .i64 nx, .int .i64 0]) (by simp [results, Tryz.results70, go_sem]) rfl ⟨some ⟨ga, 4, none⟩, (pv - 4), by rw [show M - 4 = ct by (have := HM.out; omega), HNX.out], by have h := (HR3.out.drop 4).take ct (by omega); rw [add_lit _ 4 (by omega)] at h; exact h, by have := HM.out; omega, (fun p hp => by cases hp; exact hga), hbb3⟩)
    case inr =>
      have d0' : (nx != 0) = true := by simp; omega
      have hon : decide (2 ≤ nx ∧ nx < 4096) = true := decide_eq_true ⟨ha, hb⟩
      have d3 : ((ct : Int) != 244) = false := by simp [hd]
      have d4 : decide (4096 ≤ nx) = false := decide_eq_false (by omega)
      have d5 : (nx == 1) = false := by simp; omega
      clear hd
      go_wp2_with fail
      refine (rzeros_any _ _ _ BD M _ HR3.out (by omega)).mono ?_
      rw [hz]
      rintro e w4 ⟨rfl, rfl⟩
      go_wp2
      all_goals
        first
          | (exfalso; omega)
          | (exact bodyPost_ret (v := .tuple #[.slice (some ⟨ga, 4, none⟩) (M - 4) (pv - 4), .int .i64 nx, .int .i64 0]) (by simp [results, Tryz.results70, go_sem]) rfl ⟨some ⟨ga, 4, none⟩, (pv - 4), by rw [show M - 4 = ct by (have := HM.out; omega), HNX.out], by have h := (HR3.out.drop 4).take ct (by omega); rw [add_lit _ 4 (by omega)] at h; exact h, by have := HM.out; omega, (fun p hp => by cases hp; exact hga), hbb3⟩)
  case inr =>
    obtain rfl : pv = M := by omega
    have hcap4 : ¬ pv = 4 := by omega
    rcases hx with h0 | ⟨ha, hb, hd⟩
    case inl =>
      have d0 : (nx == 0) = true := by simp [h0]
      have d0' : (nx != 0) = false := by simp [h0]
      have d4 : decide (4096 ≤ nx) = false := decide_eq_false (by omega)
      have d5 : (nx == 1) = false := by simp [h0]
      clear h0
      go_wp2_with fail
      refine (rzeros_any _ _ _ BD pv _ HR3.out (by omega)).mono ?_
      rw [hz]
      rintro e w4 ⟨rfl, rfl⟩
      go_wp2
      all_goals
        first
          | (exfalso; omega)
          | (exact bodyPost_ret (v := .tuple #[.slice (some ⟨ga, 4, none⟩) (pv - 4) (pv - 4), .int .i64 nx, .int .i64 0]) (by simp [results, Tryz.results70, go_sem]) rfl ⟨some ⟨ga, 4, none⟩, (pv - 4), by rw [show pv - 4 = ct by (have := HM.out; omega), HNX.out], by have h := (HR3.out.drop 4).take ct (by omega); rw [add_lit _ 4 (by omega)] at h; exact h, by have := HM.out; omega, (fun p hp => by cases hp; exact hga), hbb3⟩)
    case inr =>
      have d0' : (nx != 0) = true := by simp; omega
      have hon : decide (2 ≤ nx ∧ nx < 4096) = true := decide_eq_true ⟨ha, hb⟩
      have d3 : ((ct : Int) != 244) = false := by simp [hd]
      have d4 : decide (4096 ≤ nx) = false := decide_eq_false (by omega)
      have d5 : (nx == 1) = false := by simp; omega
      clear hd
      go_wp2_with fail
      refine (rzeros_any _ _ _ BD pv _ HR3.out (by omega)).mono ?_
      rw [hz]
      rintro e w4 ⟨rfl, rfl⟩
      go_wp2
      all_goals
        first
          | (exfalso; omega)
          | (exact bodyPost_ret (v := .tuple #[.slice (some ⟨ga, 4, none⟩) (pv - 4) (pv - 4), .int .i64 nx, .int .i64 0]) (by simp [results, Tryz.results70, go_sem]) rfl ⟨some ⟨ga, 4, none⟩, (pv - 4), by rw [show pv - 4 = ct by (have := HM.out; omega), HNX.out], by have h := (HR3.out.drop 4).take ct (by omega); rw [add_lit _ 4 (by omega)] at h; exact h, by have := HM.out; omega, (fun p hp => by cases hp; exact hga), hbb3⟩)
theorem rpart_fun (a : Option Addr) (len cap : Nat) (l : List UInt8) (w : World) (hr : Rd w a len l) (hc : len ≤ cap) :
    Calls Tryz.prog 70 #[.slice a len cap] w fun e w' => PartEnd w l e w' := by
  by_cases he : P.openErr l = 0
  case neg => exact (rpart_open a len cap l w hr hc he).mono fun e w' ⟨h1, h2⟩ => by subst h1; exact PartEnd.empty (pt_open he) h2
  by_cases hf : P.openKind l = 5 ∧ P.openLevel l = 0 ∧ 1 ≤ P.openCount l ∧ P.openCount l ≤ 244
  case neg => exact (rpart_form a len cap l w hr hc he hf).mono fun e w' ⟨h1, h2⟩ => by subst h1; exact PartEnd.empty (pt_bad he (fun h => hf ⟨h.1, h.2.1, h.2.2.1, h.2.2.2.1⟩)) h2
  obtain ⟨hk, hv, h1, h2⟩ := hf
  by_cases hx : ((P.get (P.openBody l) 0 4).1 = 0 ∨ 2 ≤ (P.get (P.openBody l) 0 4).1 ∧ (P.get (P.openBody l) 0 4).1 < 4096 ∧ P.openCount l = 244)
  case neg => exact (rpart_next a len cap l w hr hc he hk hv h1 h2 hx).mono fun e w' ⟨h1, h2⟩ => by subst h1; exact PartEnd.empty (pt_bad he (fun h => hx h.2.2.2.2.1)) h2
  rcases hz : P.zeros ((P.openBody l).drop (4 + P.openCount l)) with _ | _
  · exact (rpart_tail a len cap l w hr hc he hk hv h1 h2 hx hz).mono fun e w' ⟨h1, h2⟩ => by subst h1; exact PartEnd.empty (pt_bad he (fun h => by have := h.2.2.2.2.2; rw [hz] at this; cases this)) h2
  · obtain ⟨g1, g2, g3⟩ := pt_good he ⟨hk, hv, h1, h2, hx, hz⟩
    exact (rpart_good a len cap l w hr hc he hk hv h1 h2 hx hz).mono fun e w' ⟨a', c', h1, h2, h3, h4, h5⟩ => ⟨a', _, c', by rw [h1, g1, g3]; rfl, by rw [g2]; exact h2, h3, h4, h5⟩
end Go.Proofs.YtnjpaanjgbfbaaaGreat
/- The reference's Same, with 'Below' as its post. -/
namespace Go.Proofs.YtnjpaanjgbfbaaaGreat
set_option linter.unusedVariables false
set_option linter.unusedSimpArgs false
open Go.RowKit

theorem same_refl (a b : Option Addr) (la ca cb : Nat) (l : List UInt8) (w : World) (hl : Rd w a la l) (hk : Rd w b la l) :
    Calls Tryz.prog 13 #[.slice a la ca, .slice b la cb] w fun e w' => e = .returned (.bool true) ∧ Below w.heap.size w w' :=
  (same_any a b la la ca cb l l w hl hk).mono fun e w' ⟨h, n, hn⟩ => by
    subst hn
    exact ⟨by simpa using h, below_drewN (Below.refl _ w) n⟩
end Go.Proofs.YtnjpaanjgbfbaaaGreat
/- The walk of chapter 11: fit. -/
namespace Go.Proofs.YtnjpaanjgbfbaaaGreat
set_option linter.unusedVariables false
set_option linter.unusedSimpArgs false
open Go.RowKit

theorem memb_snoc (l : List Int) (j : Nat) (hj : j < l.length) (x : Int) : x ∈ l.take (j + 1) ↔ (x ∈ l.take j ∨ x = l[j]) := by
  rw [List.take_succ_eq_append_getElem hj, List.mem_append, List.mem_singleton]
theorem nodup_snoc (l : List Int) (j : Nat) (hj : j < l.length) (h : (l.take j).Nodup) (hn : ¬ l[j] ∈ l.take j) : (l.take (j + 1)).Nodup := by
  rw [List.take_succ_eq_append_getElem hj, List.nodup_append]
  refine ⟨h, by simp, ?_⟩
  rintro a ha b hb rfl
  simp at hb
  subst hb
  exact hn ha
theorem nodup_not (l : List Int) (j : Nat) (hj : j < l.length) (hn : l[j] ∈ l.take j) : ¬ l.Nodup := by
  intro h
  have h2 : (l.take (j + 1)).Nodup := h.sublist (List.take_sublist _ _)
  rw [List.take_succ_eq_append_getElem hj, List.nodup_append] at h2
  exact h2.2.2 _ hn _ (by simp) rfl
end Go.Proofs.YtnjpaanjgbfbaaaGreat
/- The walks of chapter 11: parts (an iterator that keeps what is left in the captured variable). -/
namespace Go.Proofs.YtnjpaanjgbfbaaaGreat
set_option linter.unusedVariables false
set_option linter.unusedSimpArgs false
open Go.RowKit Go.Shelf
attribute [local go_sem] Oper.semAt_some

end Go.Proofs.YtnjpaanjgbfbaaaGreat
/- The walk of chapter 11: Cut. -/
namespace Go.Proofs.YtnjpaanjgbfbaaaGreat
set_option linter.unusedVariables false
set_option linter.unusedSimpArgs false
open Go.RowKit Go.Shelf
attribute [local go_sem] Oper.semAt_some

theorem rowsT : SlT 95 22 1 24 := ⟨Tryz.underlying95, ⟨.slice none 0 0, by kernel_rfl, rfl⟩, by omega⟩
/-- v is a row of rows of bytes, each of them the call's own, from block n on. -/
def OL (w : World) (n : Nat) (v : Value) (L : List (List UInt8)) : Prop := ∃ vs, OV w n 22 1 v L.length vs ∧ vs.length = L.length ∧ ∀ (i : Nat) (u : Value) (k : List UInt8), vs[i]? = some u → L[i]? = some k → OB w n u k
theorem OL.nil (w : World) (n : Nat) : OL w n (.slice none 0 0) [] := ⟨[], OV.nil _ _ _ _, rfl, fun i u k h => by simp at h⟩
theorem OB.base {w : World} {n : Nat} {v : Value} {l : List UInt8} (h : OB w n v l) (k : Nat) (hk : v.ownBlock = some k) : n ≤ k := by
  rcases h.2 with ⟨rfl, _⟩ | ⟨g, cap, cur, rfl, hb, _⟩
  · simp [Value.ownBlock] at hk
  · simp [Value.ownBlock] at hk
    omega
theorem OV.base {w : World} {n : Nat} {t : TypeId} {s : Nat} {v : Value} {m : Nat} {l : List Value} (h : OV w n t s v m l) (k : Nat) (hk : v.ownBlock = some k) : n ≤ k := by
  rcases h.2 with ⟨rfl, _⟩ | ⟨g, cap, cur, rfl, hb, _⟩
  · simp [Value.ownBlock] at hk
  · simp [Value.ownBlock] at hk
    omega
theorem OB.cells {w : World} {n : Nat} {v : Value} {l : List UInt8} (h : OB w n v l) (k : Nat) (hk : v.ownBlock = some k) : ∃ cur, w.heap[k]? = some (.cells cur 5 (0, 0)) := by
  rcases h.2 with ⟨rfl, _⟩ | ⟨g, cap, cur, rfl, hb, hg, _⟩
  · simp [Value.ownBlock] at hk
  · simp [Value.ownBlock] at hk
    subst hk
    exact ⟨cur, hg⟩
theorem OV.cells {w : World} {n : Nat} {t : TypeId} {s : Nat} {v : Value} {m : Nat} {l : List Value} (h : OV w n t s v m l) (k : Nat) (hk : v.ownBlock = some k) : ∃ cur, w.heap[k]? = some (.cells cur t (0, 0)) := by
  rcases h.2 with ⟨rfl, _⟩ | ⟨g, cap, cur, rfl, hb, hg, _⟩
  · simp [Value.ownBlock] at hk
  · simp [Value.ownBlock] at hk
    subst hk
    exact ⟨cur, hg⟩
theorem OB.kept' {w w' : World} {n : Nat} {v : Value} {l : List UInt8} (h : OB w n v l) {row : Option Nat} (hg : w.grownBy w' row) (hr : ∀ r, row = some r → r < n ∨ ∀ cur, w.heap[r]? ≠ some (.cells cur 5 (0, 0))) : OB w' n v l := by
  refine World.ownsRow.kept h hg ?_
  rcases hv : v.ownBlock with _ | k
  · exact .inl rfl
  · refine .inr fun e => ?_
    rcases hr k e.symm with h1 | h1
    · have := h.base k hv
      omega
    · obtain ⟨cur, hc⟩ := h.cells k hv
      exact h1 cur hc
theorem OV.kept' {w w' : World} {n : Nat} {t : TypeId} {s : Nat} {v : Value} {m : Nat} {l : List Value} (h : OV w n t s v m l) {row : Option Nat} (hg : w.grownBy w' row) (hr : ∀ r, row = some r → r < n ∨ ∀ cur, w.heap[r]? ≠ some (.cells cur t (0, 0))) : OV w' n t s v m l := by
  refine World.ownsRow.kept h hg ?_
  rcases hv : v.ownBlock with _ | k
  · exact .inl rfl
  · refine .inr fun e => ?_
    rcases hr k e.symm with h1 | h1
    · have := h.base k hv
      omega
    · obtain ⟨cur, hc⟩ := h.cells k hv
      exact h1 cur hc
/-- A turn of a block below n, or of one that is no cells, leaves it. -/
theorem OL.kept {w w' : World} {n : Nat} {v : Value} {L : List (List UInt8)} (h : OL w n v L) {row : Option Nat} (hg : w.grownBy w' row) (hr : ∀ r, row = some r → r < n ∨ ∃ o, w.heap[r]? = some o ∧ o.isCells = false) : OL w' n v L := by
  obtain ⟨vs, h1, h2, h3⟩ := h
  have hx : ∀ (t : TypeId) r, row = some r → r < n ∨ ∀ cur, w.heap[r]? ≠ some (.cells cur t (0, 0)) := fun t r e => by
    rcases hr r e with h | ⟨o, ho, hc⟩
    · exact .inl h
    · refine .inr fun cur hcur => ?_
      rw [ho] at hcur
      cases hcur
      cases hc
  exact ⟨vs, h1.kept' hg (hx _), h2, fun i u k a b => (h3 i u k a b).kept' hg (hx _)⟩
end Go.Proofs.YtnjpaanjgbfbaaaGreat
/- The walk of chapter 11: the reference's Cut, where the pages are not fit. -/
namespace Go.Proofs.YtnjpaanjgbfbaaaGreat
set_option linter.unusedVariables false
set_option linter.unusedSimpArgs false
open Go.RowKit

theorem nodup_in (l : List Int) (i k : Nat) (hk : k < i) (hi : i < l.length) (e : l[k] = l[i]) : l[i] ∈ l.take i := by
  rw [List.mem_take_iff_getElem]
  exact ⟨k, by omega, e⟩
theorem nodup_ne (l : List Int) (h : l.Nodup) (i k : Nat) (hk : k < i) (hi : i < l.length) : l[k] ≠ l[i] := fun e => nodup_not l i hi (nodup_in l i k hk hi e) h
theorem nodup_out (l : List Int) (i : Nat) (hi : i < l.length) (h : ∀ k (hk : k < i), l[k] ≠ l[i]) : ¬ l[i] ∈ l.take i := by
  rw [List.mem_take_iff_getElem]
  rintro ⟨k, hk, e⟩
  exact h k (by omega) e
set_option maxRecDepth 100000 in
set_option maxHeartbeats 3200000 in
theorem rcut_bad (a : Option Addr) (len cap : Nat) (b : List UInt8) (p : Option Addr) (m d : Nat) (l : List Int) (w : World) (hr : Rd w a len b) (hl : RI w p m l) (hf : P.fits b l = false) :
    Calls Tryz.prog 38 #[.slice a len cap, .slice p m d] w fun e w' => e = .returned (.tuple #[.slice none 0 0, .int .i64 1]) ∧ Below w.heap.size w w' := by
  have hbl := hr.1
  have hlm := hl.len
  have hlx := hr.2.1
  have hmx := hl.2.1
  unfold maxLen at hlx hmx
  have hND := P.need_nat len
  have HNE := fun w => rneed_any (len : Int) w (by omega)
  rw [hND] at HNE
  have HNE := Lib.hid HNE
  have hFi := (P.fits_iff b l)
  rw [hbl] at hFi
  have hno : ¬ (l.length = P.needN len ∧ (∀ p ∈ l, 2 ≤ p ∧ p < 4096) ∧ l.Nodup) := fun h => by
    have := hFi.2 h
    rw [hf] at this
    cases this
  have HNO := Lib.hid hno
  have HL := Lib.hid hl
  have HLM := Lib.hid hlm
  generalize P.needN len = ND at *
  clear hr hl hf hFi hbl hlm hno hND
  by_cases hm : m = ND
  case neg =>
    have hq : ((m : Int) != (ND : Int)) = true := by simp; omega
    go_enter Tryz.func38, Tryz.ntmps38
    go_wp2_with fail
    refine (HNE.out _).mono ?_
    rintro e w1 ⟨rfl, rfl⟩
    go_wp2
    go_ret2
    exact ⟨rfl, Below.refl _ _⟩
  case pos =>
    have hq : ((m : Int) != (ND : Int)) = false := by simp [hm]
    have HM := Lib.hid hm
    clear hm
    go_enter Tryz.func38, Tryz.ntmps38
    go_wp2_with fail
    refine (HNE.out _).mono ?_
    rintro e w1 ⟨rfl, rfl⟩
    go_wp2
    go_loopw [6] (fun i wr => ∃ j : Nat, j ≤ m ∧ i = .int .i64 j ∧ (∀ x ∈ l.take j, 2 ≤ x ∧ x < 4096) ∧ (l.take j).Nodup ∧ Below w1.heap.size w1 wr) (fun i _ => m - (intOf i).toNat)
    case atStart => exact ⟨0, by omega, rfl, by simp, by simp, Below.refl _ _⟩
    case round =>
      obtain ⟨j, hj, rfl, hon, hnd, hbr⟩ := hrel
      have HON := Lib.hid hon
      have HND := Lib.hid hnd
      clear hon hnd
      by_cases hlt : j < m
      · have hjl : j < l.length := by have := HLM.out; omega
        obtain ⟨q, rfl, hq0⟩ := (HL.out.below hbr).at j hjl
        have hqa := fun w' (hb : Below w1.heap.size w1 w') k (hk : k < l.length) => show w'.cell? (q.add k) = some (.int .i64 l[k]) by
          obtain ⟨p', e, h⟩ := (HL.out.below hb).at k hk
          cases e
          exact h
        have HQA := Lib.hid hqa
        have hms := fun x => memb_snoc l j hjl x
        have hns := nodup_snoc l j hjl HND.out
        have hin := fun k hk e => nodup_not l j hjl (nodup_in l j k hk hjl e)
        have hout := nodup_out l j hjl
        have hnon : ¬ (2 ≤ l[j] ∧ l[j] < 4096) → True := fun _ => trivial
        obtain ⟨x, hx⟩ : ∃ x, x = l[j] := ⟨_, rfl⟩
        rw [← hx] at hq0 hms hns hin hout
        have HMS := Lib.hid hms
        have HNS := Lib.hid hns
        have HIN := Lib.hid hin
        have HOUT := Lib.hid hout
        have HX := Lib.hid hx
        clear hms hns hin hout hqa hx hnon
        by_cases hx1 : x < 2
        · go_wp2
          go_ret2
          exact ⟨rfl, hbr⟩
        by_cases hx2 : 4096 ≤ x
        · go_wp2
          go_ret2
          exact ⟨rfl, hbr⟩
        go_wp2
        go_loopw [7] (fun i ws => ∃ k : Nat, k ≤ j ∧ i = .int .i64 k ∧ (∀ k' (hk : k' < k) (h : k' < l.length), l[k'] ≠ x) ∧ Below w1.heap.size w1 ws) (fun i _ => j - (intOf i).toNat)
        case atStart => exact ⟨0, by omega, rfl, fun k' hk => by omega, hbr⟩
        case round =>
          obtain ⟨k, hk, rfl, hne, hbs⟩ := hrel
          have HNEQ := Lib.hid hne
          clear hne
          by_cases hkj : k < j
          · have hkl : k < l.length := by omega
            have hk0 := HQA.out _ hbs k hkl
            have hj0 := HQA.out _ hbs j hjl
            rw [← HX.out] at hj0
            obtain ⟨y, hy⟩ : ∃ y, y = l[k] := ⟨_, rfl⟩
            rw [← hy] at hk0
            have HY := Lib.hid hy
            clear hy
            have hbd : Below w1.heap.size w1 wr.drew := ⟨hbs.os, hbs.tape, hbs.output, hbs.size, hbs.block⟩
            by_cases hxy : y = x
            · have ht : (y == x) = true := by simp [hxy]
              have HXY := Lib.hid hxy
              clear hxy
              go_wp2
              go_quiet (fail)
              go_wp2
              go_ret2
              exact ⟨rfl, below_drewN hbs _⟩
            · have ht : (y == x) = false := by simp [hxy]
              have HXY := Lib.hid hxy
              clear hxy
              go_wp2
              go_quiet (fail)
              go_wp2
              refine ⟨⟨k + 1, by omega, by go_num, ?_, below_drewN hbs _⟩, by simp [intOf]; omega⟩
              intro k' hk' h'
              rcases Nat.lt_or_ge k' k with h0 | h0
              · exact HNEQ.out k' h0 h'
              · obtain rfl : k' = k := by omega
                rw [← HY.out]
                exact HXY.out
          · obtain rfl : k = j := by omega
            have hno := HOUT.out (fun k' hk' => HNEQ.out k' hk' (by omega))
            have HNO2 := Lib.hid hno
            clear hno
            go_wp2
            refine ⟨⟨k + 1, by omega, by first | go_num | (simp; done), ?_, HNS.out HNO2.out, hbs⟩, by simp [intOf]; omega⟩
            intro y hy
            rcases (HMS.out y).1 hy with h | h
            · exact HON.out y h
            · rw [h]; omega
      · exfalso
        have h1 := HON.out
        have h2 := HND.out
        have h3 := HLM.out
        rw [List.take_of_length_le (by omega)] at h1 h2
        exact HNO.out ⟨by rw [h3, HM.out], h1, h2⟩
end Go.Proofs.YtnjpaanjgbfbaaaGreat
/- The walk of chapter 11: the reference's Cut, where the pages are fit. -/
namespace Go.Proofs.YtnjpaanjgbfbaaaGreat
set_option linter.unusedVariables false
set_option linter.unusedSimpArgs false
open Go.RowKit

theorem OL_app {w8 w9 : World} {n k : Nat} {v v9 vc : Value} {L0 : List (List UInt8)} {CP : List UInt8} {vs : List Value} (hv : OV w8 n 22 1 v k vs) (hvl : vs.length = k) (hcl : L0.length = k)
    (hall : ∀ (i : Nat) (u : Value) (c : List UInt8), vs[i]? = some u → L0[i]? = some c → OB w8 n u c) (hc : OB w8 n vc CP) (ho9 : OV w9 n 22 1 v9 (k + 1) (vs ++ [vc])) (hg9 : w8.grownBy w9 v.ownBlock) : OL w9 n v9 (L0 ++ [CP]) := by
  have hrc : ∀ r, v.ownBlock = some r → ∃ cur, w8.heap[r]? = some (.cells cur 22 (0, 0)) := hv.cells
  have ob : ∀ u c, OB w8 n u c → OB w9 n u c := fun u c h =>
    h.kept' hg9 (fun r e => .inr fun cur hcur => by obtain ⟨cur', hc⟩ := hrc r e; rw [hc] at hcur; simp at hcur)
  refine ⟨vs ++ [vc], by rw [List.length_append, hcl]; exact ho9, by simp [hvl, hcl], ?_⟩
  intro i u c hu hcc
  rcases Nat.lt_or_ge i k with hi | hi
  · rw [List.getElem?_append_left (by omega)] at hu hcc
    exact ob _ _ (hall i u c hu hcc)
  · rw [List.getElem?_append_right (by omega)] at hu hcc
    rw [hvl] at hu
    rw [hcl] at hcc
    rcases hj : i - k with _ | j
    · rw [hj] at hu hcc
      simp at hu hcc
      subst hu hcc
      exact ob _ _ hc
    · rw [hj] at hu
      simp at hu
set_option maxRecDepth 100000 in
set_option maxHeartbeats 6400000 in
theorem rcut_fit (a : Option Addr) (len cap : Nat) (b : List UInt8) (p : Option Addr) (m d : Nat) (l : List Int) (w : World) (hr : Rd w a len b) (hc : len ≤ cap) (hl : RI w p m l) (hf : P.fits b l = true) :
    Calls Tryz.prog 38 #[.slice a len cap, .slice p m d] w fun e w' => ∃ v, e = .returned (.tuple #[v, .int .i64 (P.cutErr b l)]) ∧ OL w' w.heap.size v (P.cutL b l) ∧ Below w.heap.size w w' := by
  have hbl := hr.1
  have hlm := hl.len
  have hlx := hr.2.1
  have hmx := hl.2.1
  unfold maxLen at hlx hmx
  have hND := P.need_nat len
  have HNE := fun w => rneed_any (len : Int) w (by omega)
  rw [hND] at HNE
  have hFi := (P.fits_iff b l).1 hf
  rw [hbl] at hFi
  obtain ⟨hF1, hF2, hF3⟩ := hFi
  have hm : m = P.needN len := by omega
  rw [← hm] at HNE
  have HNE := Lib.hid HNE
  have hq : ((m : Int) != (m : Int)) = false := by simp
  have HFT := Lib.hid hf
  have HL := Lib.hid hl
  have HR := Lib.hid hr
  have HLM := Lib.hid hlm
  have HM := Lib.hid hm
  have HBL := Lib.hid hbl
  have HF2 := Lib.hid hF2
  have HF3 := Lib.hid hF3
  have hE1 : 1048576 < len → P.cutErr b l = 3 ∧ P.cutL b l = [] := fun h => by
    have e1 : P.cutErr b l = 3 := by unfold P.cutErr; rw [hf, if_pos rfl, if_pos (by omega)]
    exact ⟨e1, by unfold P.cutL; rw [if_neg (by omega)]⟩
  have hE2 : ¬ 1048576 < len → P.cutErr b l = 0 ∧ P.cutL b l = P.cutTo b l l.length := fun h => by
    have e1 : P.cutErr b l = 0 := by unfold P.cutErr; rw [hf, if_pos rfl, if_neg (by omega)]
    exact ⟨e1, by unfold P.cutL; rw [if_pos e1]⟩
  have HE1 := Lib.hid hE1
  have HE2 := Lib.hid hE2
  generalize P.cutErr b l = E at *
  generalize P.cutL b l = LL at *
  clear hr hl hf hbl hlm hND hF1 hF2 hF3 hm hE1 hE2
  go_enter Tryz.func38, Tryz.ntmps38
  go_wp2_with fail
  refine (HNE.out _).mono ?_
  rintro e w1 ⟨rfl, rfl⟩
  go_wp2
  go_loopw [6] (fun i wr => ∃ j : Nat, j ≤ m ∧ i = .int .i64 j ∧ Below w1.heap.size w1 wr) (fun i _ => m - (intOf i).toNat)
  case atStart => exact ⟨0, by omega, rfl, Below.refl _ _⟩
  case round =>
    obtain ⟨j, hj, rfl, hbr⟩ := hrel
    by_cases hlt : j < m
    · have hjl : j < l.length := by have := HLM.out; omega
      obtain ⟨q, rfl, hq0⟩ := (HL.out.below hbr).at j hjl
      have hqa := fun w' (hb : Below w1.heap.size w1 w') k (hk : k < l.length) => show w'.cell? (q.add k) = some (.int .i64 l[k]) by
        obtain ⟨p', e, h⟩ := (HL.out.below hb).at k hk
        cases e
        exact h
      have HQA := Lib.hid hqa
      obtain ⟨hx1, hx2⟩ := HF2.out l[j] (List.getElem_mem hjl)
      have hne := fun k hk => nodup_ne l HF3.out j k hk hjl
      obtain ⟨x, hx⟩ : ∃ x, x = l[j] := ⟨_, rfl⟩
      rw [← hx] at hq0 hne hx1 hx2
      have HNEQ := Lib.hid hne
      have HX := Lib.hid hx
      clear hne hqa hx
      go_wp2
      go_loopw [7] (fun i ws => ∃ k : Nat, k ≤ j ∧ i = .int .i64 k ∧ Below w1.heap.size w1 ws) (fun i _ => j - (intOf i).toNat)
      case atStart => exact ⟨0, by omega, rfl, hbr⟩
      case round =>
        obtain ⟨k, hk, rfl, hbs⟩ := hrel
        by_cases hkj : k < j
        · have hkl : k < l.length := by omega
          have hk0 := HQA.out _ hbs k hkl
          have hj0 := HQA.out _ hbs j hjl
          have hxy := HNEQ.out k hkj
          rw [← HX.out] at hj0
          obtain ⟨y, hy⟩ : ∃ y, y = l[k] := ⟨_, rfl⟩
          rw [← hy] at hk0 hxy
          have hbd : Below w1.heap.size w1 wr.drew := ⟨hbs.os, hbs.tape, hbs.output, hbs.size, hbs.block⟩
          have ht : (y == x) = false := by simp [hxy]
          clear hxy hy
          go_wp2
          go_quiet (fail)
          go_wp2
          exact ⟨⟨k + 1, by omega, by go_num, below_drewN hbs _⟩, by simp [intOf]; omega⟩
        · obtain rfl : k = j := by omega
          go_wp2
          exact ⟨⟨k + 1, by omega, by first | go_num | (simp; done), hbs⟩, by simp [intOf]; omega⟩
    · by_cases hbig : 1048576 < len
      · obtain ⟨z1, z2⟩ := HE1.out hbig
        have hbi : (1048576 : Int) < (len : Int) := by omega
        go_wp2
        go_ret2
        exact ⟨_, by rw [z1]; rfl, by rw [z2]; exact OL.nil _ _, hbr⟩
      · obtain ⟨z1, z2⟩ := HE2.out hbig
        have hbi : decide (1048576 < (len : Int)) = false := decide_eq_false (by omega)
        have HZ1 := Lib.hid z1
        have HZ2 := Lib.hid z2
        clear z1 z2
        go_wp2
        go_loopw [8, 9] (fun v i wr => ∃ k : Nat, k ≤ m ∧ i = .int .i64 k ∧ (∃ a n c, v = .slice a n c) ∧ OL wr w1.heap.size v (P.cutTo b l k) ∧ Below w1.heap.size w1 wr) (fun v i _ => m - (intOf i).toNat)
        case atStart => exact ⟨0, by omega, rfl, ⟨_, _, _, rfl⟩, OL.nil _ _, hbr⟩
        case round =>
          obtain ⟨k, hk, rfl, ⟨av, nv, cv, rfl⟩, hol, hbs⟩ := hrel
          clear hbr
          by_cases hkm : k < m
          · have h244 : 244 * k < len := by have h := HM.out; unfold P.needN at h; omega
            have hm2 : m ≤ 4300 := by have h := HM.out; unfold P.needN at h; omega
            obtain ⟨q0, rfl, -⟩ := (HR.out.below hbs).at 0 (by have := HBL.out; omega)
            have hlB := HBL.out
            have hpl := P.part_len b k
            rw [hlB] at hpl
            have hsl := P.seal_cut b l k (by omega)
            have hnx := P.nextI_ok b l HFT.out k
            rw [HLM.out] at hnx
            have hcs := P.cutTo_succ b l k
            have hcl := P.cutTo_length b l k
            have hT0 : Rd wr (some (q0.add (244 * k))) (min 244 (len - 244 * k)) (P.part b k) := by
              have h := ((HR.out.below hbs).drop (244 * k)).take (min 244 (len - 244 * k)) (by omega)
              have e : P.part b k = (b.drop (244 * k)).take (min 244 (len - 244 * k)) := by
                unfold P.part
                rw [← hlB, List.take_eq_take_iff]
                simp
              rw [e]
              exact h
            have hnv : P.nextI l k = if h : k + 1 < l.length then l[k + 1] else 0 := by
              unfold P.nextI
              split
              · rename_i h; simp [List.getD, h]
              · rename_i h; simp [List.getD, h]
            have hL1 := HL.out.below hbs
            obtain ⟨vs, hv, hvl, hall⟩ := hol
            rw [hcl] at hv hvl
            obtain rfl : k = nv := hv.len.symm
            have hK : P.cutPage b l k = P.sealB 5 0 ((P.part b k).length : Nat) (P.cutBody b l k) := by
              unfold P.cutPage P.sealB
              rw [if_pos hsl]
              simp
            have hbody : P.cutBody b l k = P.be 4 (P.nextI l k).toNat ++ P.part b k := rfl
            have hbl : (P.cutBody b l k).length = 4 + (P.part b k).length := by rw [hbody, List.length_append, P.be_length]
            generalize P.cutBody b l k = CB at *
            generalize P.cutPage b l k = CP at *
            generalize P.part b k = PT at *
            generalize P.nextI l k = X at *
            obtain ⟨L1, hle⟩ : ∃ L, P.cutTo b l (k + 1) = L := ⟨_, rfl⟩
            rw [hle] at hcs
            have HLE := Lib.hid hle
            clear hle
            generalize P.cutTo b l k = L0 at *
            obtain ⟨A, hA⟩ : ∃ A, A = 244 * k := ⟨_, rfl⟩
            obtain ⟨B, hB⟩ : ∃ B, B = 244 * (k + 1) := ⟨_, rfl⟩
            rw [← hA] at hpl hT0
            have a1 : (k : Int) * 244 = (A : Int) := by omega
            have a2 : ((k : Int) + 1) * 244 = (B : Int) := by omega
            have a3 : (0 : Int) ≤ (A : Int) := by omega
            have a5 : ¬ cap = A := by omega
            have a6 : A < len := by omega
            have aBA : B = A + 244 := by omega
            have aB0 : A ≤ 1048576 := by omega
            clear hA hB hlB
            by_cases hBl : B < len
            case pos =>
              obtain ⟨ln, hln⟩ : ∃ ln, ln = 244 := ⟨_, rfl⟩
              rw [show min 244 (len - A) = ln by omega] at hpl hT0
              have hT := hT0
              have b1 : (B : Int) < (len : Int) := by omega
              have b2 : (B : Int) ≤ (cap : Int) := by omega
              have b3 : (A : Int) ≤ (B : Int) := by omega
              have b4 : B - A = ln := by omega
              have hln2 : ln ≤ 244 := by omega
              clear hT0 hln aBA
              have hX0 : 0 ≤ X := by omega
              have hX1 : X < 4096 := by omega
              have hYl := P.be_length 4 X.toNat
              obtain ⟨Y, hY⟩ : ∃ Y, P.be 4 X.toNat = Y := ⟨_, rfl⟩
              rw [hY] at hbody hYl
              have hput : ∀ w, Calls Tryz.prog 40 #[.int .i64 4, .int .i64 X] w fun e w' => ∃ v, e = .returned v ∧ OB w' w.heap.size v Y ∧ Below w.heap.size w w' := fun w => by
                rw [← hY]
                exact refput_any 4 X w (by omega) (by omega) hX0 (by omega) (by simp; omega)
              have HPUT := Lib.hid hput
              have HYL := Lib.hid hYl
              have HV := Lib.hid hv
              have HVL := Lib.hid hvl
              have HALL := Lib.hid hall
              have HCL := Lib.hid hcl
              have HCS := Lib.hid hcs
              have HT := Lib.hid hT
              have HPL := Lib.hid hpl
              have HSL := Lib.hid hsl
              have HBL2 := Lib.hid hbl
              have HK := Lib.hid hK
              have HBODY := Lib.hid hbody
              have hkl : k + 1 < l.length ↔ k + 1 < m := by rw [HLM.out]
              have HKL := Lib.hid hkl
              have HNV := Lib.hid hnv
              clear hYl hY hput hv hvl hall hcl hcs hT hpl hsl hbl hK hbody hnv hnx hkl

              by_cases hk1 : k + 1 < m
              case pos =>
                obtain ⟨pp, rfl, hcl1⟩ := hL1.at (k + 1) (HKL.out.2 hk1)
                rw [show l[k + 1]'(HKL.out.2 hk1) = X by rw [HNV.out, dif_pos (HKL.out.2 hk1)], add_lit pp (k + 1) (by omega)] at hcl1
                have n1 : (k : Int) + 1 < (m : Int) := by omega
                go_wp2_with fail
                refine (HPUT.out _).mono ?_
                rintro e w5 ⟨v5, rfl, ho5, hb5⟩
                obtain ⟨a5, c5, hv5, -, -, -, -⟩ := ho5.form
                rw [HYL.out] at hv5
                subst hv5
                have ht5 := HT.out.below hb5
                have HO5 := Lib.hid ho5
                have HT5 := Lib.hid ht5
                clear ho5 ht5
                go_wp2_with (at_builtin; refine wpList_app _ rfl _ _ rfl wr.heap.size _ _ rfl HO5.out _ _ _ _ rfl HT5.out ?c1 hb5.size ?_)
                case c1 => rw [HYL.out]; omega
                intro v6 w6 ho6 hg6 hat6
                have hb6 : Below wr.heap.size wr w6 := HO5.out.grown hb5 hb5.size hg6
                rw [← HBODY.out] at ho6
                obtain ⟨a6, c6, hv6, hr6, -, -, -⟩ := ho6.form
                subst hv6
                have HR6 := Lib.hid hr6
                have hll : (ln : Int) = (PT.length : Int) := by rw [HPL.out]
                have hseal := rseal_fun 5 0 (ln : Int) a6 CB.length c6 CB w6 HR6.out
                rw [show P.sealErr 5 0 (ln : Int) CB.length = 0 by rw [hll]; exact HSL.out, show P.sealB 5 0 (ln : Int) CB = CP by rw [hll]; exact HK.out.symm] at hseal
                have HSE := Lib.hid hseal
                clear ho6 hr6 hseal hll hg6 hat6
                go_wp2_with fail
                refine HSE.out.mono ?_
                rintro e w7 ⟨v7, rfl, ho7, hb7⟩
                obtain ⟨a7, c7, hv7, -, -, -, -⟩ := ho7.form
                subst hv7
                have hb7' := hb6.trans (hb7.mono hb6.size)
                have hb8 : Below wr.heap.size wr (w7.alloc (.cells #[.slice a7 CP.length c7] 22)) := hb7'.alloc hb7'.size _
                have hrv : RV (w7.alloc (.cells #[.slice a7 CP.length c7] 22)) (some ⟨w7.heap.size, 0, none⟩) 1 1 [.slice a7 CP.length c7] := RV_lit w7 22 1 1 [.slice a7 CP.length c7] rfl (by unfold maxLen; omega)
                have ho8 := (ho7.mono (Nat.le_trans hbs.size hb6.size)).alloc (.cells #[.slice a7 CP.length c7] 22)
                have HO8 := Lib.hid ho8
                have HRV := Lib.hid hrv
                have HB8 := Lib.hid hb8
                clear ho7 ho8 hrv hb8
                go_wp2_with (at_builtin; refine wpList_appV rowsT _ rfl _ _ rfl w1.heap.size _ _ _ rfl (HV.out.below HB8.out) _ _ _ _ rfl HRV.out (fun u hu => by rw [List.mem_singleton] at hu; subst hu; rfl) ?c1 ?c2 ?c3 ?_)
                case c1 => omega
                case c2 => omega
                case c3 => have := HB8.out.size; have := hbs.size; omega
                intro v9 w9 ho9 hg9 hat9
                obtain ⟨a9, c9, rfl, -⟩ := ho9.form
                have hol9 := OL_app (HV.out.below HB8.out) HVL.out HCL.out (fun i u c h1 h2 => (HALL.out i u c h1 h2).below HB8.out) HO8.out ho9 hg9
                rw [← HCS.out] at hol9
                have hb9 : Below w1.heap.size w1 w9 := (below_then hbs HB8.out hbs.size).grown hg9 (by have := HB8.out.size; have := hbs.size; omega) (fun r e => HV.out.base r e)
                have HOL9 := Lib.hid hol9
                clear ho9 hg9 hat9 hol9
                go_wp2
                go_roundw
                case rel => exact ⟨k + 1, by omega, by first | go_num | (simp; done), ⟨_, _, _, rfl⟩, by rw [HLE.out]; exact HOL9.out, hb9⟩
                case measure => simp [intOf]; omega
              case neg =>
                obtain rfl : X = 0 := by rw [HNV.out, dif_neg (fun h => hk1 (HKL.out.1 h))]
                have n1 : ¬ ((k : Int) + 1 < (m : Int)) := by omega
                go_wp2_with fail
                refine (HPUT.out _).mono ?_
                rintro e w5 ⟨v5, rfl, ho5, hb5⟩
                obtain ⟨a5, c5, hv5, -, -, -, -⟩ := ho5.form
                rw [HYL.out] at hv5
                subst hv5
                have ht5 := HT.out.below hb5
                have HO5 := Lib.hid ho5
                have HT5 := Lib.hid ht5
                clear ho5 ht5
                go_wp2_with (at_builtin; refine wpList_app _ rfl _ _ rfl wr.heap.size _ _ rfl HO5.out _ _ _ _ rfl HT5.out ?c1 hb5.size ?_)
                case c1 => rw [HYL.out]; omega
                intro v6 w6 ho6 hg6 hat6
                have hb6 : Below wr.heap.size wr w6 := HO5.out.grown hb5 hb5.size hg6
                rw [← HBODY.out] at ho6
                obtain ⟨a6, c6, hv6, hr6, -, -, -⟩ := ho6.form
                subst hv6
                have HR6 := Lib.hid hr6
                have hll : (ln : Int) = (PT.length : Int) := by rw [HPL.out]
                have hseal := rseal_fun 5 0 (ln : Int) a6 CB.length c6 CB w6 HR6.out
                rw [show P.sealErr 5 0 (ln : Int) CB.length = 0 by rw [hll]; exact HSL.out, show P.sealB 5 0 (ln : Int) CB = CP by rw [hll]; exact HK.out.symm] at hseal
                have HSE := Lib.hid hseal
                clear ho6 hr6 hseal hll hg6 hat6
                go_wp2_with fail
                refine HSE.out.mono ?_
                rintro e w7 ⟨v7, rfl, ho7, hb7⟩
                obtain ⟨a7, c7, hv7, -, -, -, -⟩ := ho7.form
                subst hv7
                have hb7' := hb6.trans (hb7.mono hb6.size)
                have hb8 : Below wr.heap.size wr (w7.alloc (.cells #[.slice a7 CP.length c7] 22)) := hb7'.alloc hb7'.size _
                have hrv : RV (w7.alloc (.cells #[.slice a7 CP.length c7] 22)) (some ⟨w7.heap.size, 0, none⟩) 1 1 [.slice a7 CP.length c7] := RV_lit w7 22 1 1 [.slice a7 CP.length c7] rfl (by unfold maxLen; omega)
                have ho8 := (ho7.mono (Nat.le_trans hbs.size hb6.size)).alloc (.cells #[.slice a7 CP.length c7] 22)
                have HO8 := Lib.hid ho8
                have HRV := Lib.hid hrv
                have HB8 := Lib.hid hb8
                clear ho7 ho8 hrv hb8
                go_wp2_with (at_builtin; refine wpList_appV rowsT _ rfl _ _ rfl w1.heap.size _ _ _ rfl (HV.out.below HB8.out) _ _ _ _ rfl HRV.out (fun u hu => by rw [List.mem_singleton] at hu; subst hu; rfl) ?c1 ?c2 ?c3 ?_)
                case c1 => omega
                case c2 => omega
                case c3 => have := HB8.out.size; have := hbs.size; omega
                intro v9 w9 ho9 hg9 hat9
                obtain ⟨a9, c9, rfl, -⟩ := ho9.form
                have hol9 := OL_app (HV.out.below HB8.out) HVL.out HCL.out (fun i u c h1 h2 => (HALL.out i u c h1 h2).below HB8.out) HO8.out ho9 hg9
                rw [← HCS.out] at hol9
                have hb9 : Below w1.heap.size w1 w9 := (below_then hbs HB8.out hbs.size).grown hg9 (by have := HB8.out.size; have := hbs.size; omega) (fun r e => HV.out.base r e)
                have HOL9 := Lib.hid hol9
                clear ho9 hg9 hat9 hol9
                go_wp2
                go_roundw
                case rel => exact ⟨k + 1, by omega, by first | go_num | (simp; done), ⟨_, _, _, rfl⟩, by rw [HLE.out]; exact HOL9.out, hb9⟩
                case measure => simp [intOf]; omega
            case neg =>
              obtain ⟨ln, hln⟩ : ∃ ln, ln = len - A := ⟨_, rfl⟩
              rw [show min 244 (len - A) = ln by omega] at hpl hT0
              have hT := hT0
              have b1 : ¬ (B : Int) < (len : Int) := by omega
              have b1' : (len : Int) ≤ (B : Int) := by omega
              have b2 : (len : Int) ≤ (cap : Int) := by omega
              have b3 : (A : Int) ≤ (len : Int) := by omega
              have b4 : len - A = ln := by omega
              have hln2 : ln ≤ 244 := by omega
              clear hT0 hln aBA hBl
              have hX0 : 0 ≤ X := by omega
              have hX1 : X < 4096 := by omega
              have hYl := P.be_length 4 X.toNat
              obtain ⟨Y, hY⟩ : ∃ Y, P.be 4 X.toNat = Y := ⟨_, rfl⟩
              rw [hY] at hbody hYl
              have hput : ∀ w, Calls Tryz.prog 40 #[.int .i64 4, .int .i64 X] w fun e w' => ∃ v, e = .returned v ∧ OB w' w.heap.size v Y ∧ Below w.heap.size w w' := fun w => by
                rw [← hY]
                exact refput_any 4 X w (by omega) (by omega) hX0 (by omega) (by simp; omega)
              have HPUT := Lib.hid hput
              have HYL := Lib.hid hYl
              have HV := Lib.hid hv
              have HVL := Lib.hid hvl
              have HALL := Lib.hid hall
              have HCL := Lib.hid hcl
              have HCS := Lib.hid hcs
              have HT := Lib.hid hT
              have HPL := Lib.hid hpl
              have HSL := Lib.hid hsl
              have HBL2 := Lib.hid hbl
              have HK := Lib.hid hK
              have HBODY := Lib.hid hbody
              have hkl : k + 1 < l.length ↔ k + 1 < m := by rw [HLM.out]
              have HKL := Lib.hid hkl
              have HNV := Lib.hid hnv
              clear hYl hY hput hv hvl hall hcl hcs hT hpl hsl hbl hK hbody hnv hnx hkl

              by_cases hk1 : k + 1 < m
              case pos =>
                obtain ⟨pp, rfl, hcl1⟩ := hL1.at (k + 1) (HKL.out.2 hk1)
                rw [show l[k + 1]'(HKL.out.2 hk1) = X by rw [HNV.out, dif_pos (HKL.out.2 hk1)], add_lit pp (k + 1) (by omega)] at hcl1
                have n1 : (k : Int) + 1 < (m : Int) := by omega
                go_wp2_with fail
                refine (HPUT.out _).mono ?_
                rintro e w5 ⟨v5, rfl, ho5, hb5⟩
                obtain ⟨a5, c5, hv5, -, -, -, -⟩ := ho5.form
                rw [HYL.out] at hv5
                subst hv5
                have ht5 := HT.out.below hb5
                have HO5 := Lib.hid ho5
                have HT5 := Lib.hid ht5
                clear ho5 ht5
                go_wp2_with (at_builtin; refine wpList_app _ rfl _ _ rfl wr.heap.size _ _ rfl HO5.out _ _ _ _ rfl HT5.out ?c1 hb5.size ?_)
                case c1 => rw [HYL.out]; omega
                intro v6 w6 ho6 hg6 hat6
                have hb6 : Below wr.heap.size wr w6 := HO5.out.grown hb5 hb5.size hg6
                rw [← HBODY.out] at ho6
                obtain ⟨a6, c6, hv6, hr6, -, -, -⟩ := ho6.form
                subst hv6
                have HR6 := Lib.hid hr6
                have hll : (ln : Int) = (PT.length : Int) := by rw [HPL.out]
                have hseal := rseal_fun 5 0 (ln : Int) a6 CB.length c6 CB w6 HR6.out
                rw [show P.sealErr 5 0 (ln : Int) CB.length = 0 by rw [hll]; exact HSL.out, show P.sealB 5 0 (ln : Int) CB = CP by rw [hll]; exact HK.out.symm] at hseal
                have HSE := Lib.hid hseal
                clear ho6 hr6 hseal hll hg6 hat6
                go_wp2_with fail
                refine HSE.out.mono ?_
                rintro e w7 ⟨v7, rfl, ho7, hb7⟩
                obtain ⟨a7, c7, hv7, -, -, -, -⟩ := ho7.form
                subst hv7
                have hb7' := hb6.trans (hb7.mono hb6.size)
                have hb8 : Below wr.heap.size wr (w7.alloc (.cells #[.slice a7 CP.length c7] 22)) := hb7'.alloc hb7'.size _
                have hrv : RV (w7.alloc (.cells #[.slice a7 CP.length c7] 22)) (some ⟨w7.heap.size, 0, none⟩) 1 1 [.slice a7 CP.length c7] := RV_lit w7 22 1 1 [.slice a7 CP.length c7] rfl (by unfold maxLen; omega)
                have ho8 := (ho7.mono (Nat.le_trans hbs.size hb6.size)).alloc (.cells #[.slice a7 CP.length c7] 22)
                have HO8 := Lib.hid ho8
                have HRV := Lib.hid hrv
                have HB8 := Lib.hid hb8
                clear ho7 ho8 hrv hb8
                go_wp2_with (at_builtin; refine wpList_appV rowsT _ rfl _ _ rfl w1.heap.size _ _ _ rfl (HV.out.below HB8.out) _ _ _ _ rfl HRV.out (fun u hu => by rw [List.mem_singleton] at hu; subst hu; rfl) ?c1 ?c2 ?c3 ?_)
                case c1 => omega
                case c2 => omega
                case c3 => have := HB8.out.size; have := hbs.size; omega
                intro v9 w9 ho9 hg9 hat9
                obtain ⟨a9, c9, rfl, -⟩ := ho9.form
                have hol9 := OL_app (HV.out.below HB8.out) HVL.out HCL.out (fun i u c h1 h2 => (HALL.out i u c h1 h2).below HB8.out) HO8.out ho9 hg9
                rw [← HCS.out] at hol9
                have hb9 : Below w1.heap.size w1 w9 := (below_then hbs HB8.out hbs.size).grown hg9 (by have := HB8.out.size; have := hbs.size; omega) (fun r e => HV.out.base r e)
                have HOL9 := Lib.hid hol9
                clear ho9 hg9 hat9 hol9
                go_wp2
                go_roundw
                case rel => exact ⟨k + 1, by omega, by first | go_num | (simp; done), ⟨_, _, _, rfl⟩, by rw [HLE.out]; exact HOL9.out, hb9⟩
                case measure => simp [intOf]; omega
              case neg =>
                obtain rfl : X = 0 := by rw [HNV.out, dif_neg (fun h => hk1 (HKL.out.1 h))]
                have n1 : ¬ ((k : Int) + 1 < (m : Int)) := by omega
                go_wp2_with fail
                refine (HPUT.out _).mono ?_
                rintro e w5 ⟨v5, rfl, ho5, hb5⟩
                obtain ⟨a5, c5, hv5, -, -, -, -⟩ := ho5.form
                rw [HYL.out] at hv5
                subst hv5
                have ht5 := HT.out.below hb5
                have HO5 := Lib.hid ho5
                have HT5 := Lib.hid ht5
                clear ho5 ht5
                go_wp2_with (at_builtin; refine wpList_app _ rfl _ _ rfl wr.heap.size _ _ rfl HO5.out _ _ _ _ rfl HT5.out ?c1 hb5.size ?_)
                case c1 => rw [HYL.out]; omega
                intro v6 w6 ho6 hg6 hat6
                have hb6 : Below wr.heap.size wr w6 := HO5.out.grown hb5 hb5.size hg6
                rw [← HBODY.out] at ho6
                obtain ⟨a6, c6, hv6, hr6, -, -, -⟩ := ho6.form
                subst hv6
                have HR6 := Lib.hid hr6
                have hll : (ln : Int) = (PT.length : Int) := by rw [HPL.out]
                have hseal := rseal_fun 5 0 (ln : Int) a6 CB.length c6 CB w6 HR6.out
                rw [show P.sealErr 5 0 (ln : Int) CB.length = 0 by rw [hll]; exact HSL.out, show P.sealB 5 0 (ln : Int) CB = CP by rw [hll]; exact HK.out.symm] at hseal
                have HSE := Lib.hid hseal
                clear ho6 hr6 hseal hll hg6 hat6
                go_wp2_with fail
                refine HSE.out.mono ?_
                rintro e w7 ⟨v7, rfl, ho7, hb7⟩
                obtain ⟨a7, c7, hv7, -, -, -, -⟩ := ho7.form
                subst hv7
                have hb7' := hb6.trans (hb7.mono hb6.size)
                have hb8 : Below wr.heap.size wr (w7.alloc (.cells #[.slice a7 CP.length c7] 22)) := hb7'.alloc hb7'.size _
                have hrv : RV (w7.alloc (.cells #[.slice a7 CP.length c7] 22)) (some ⟨w7.heap.size, 0, none⟩) 1 1 [.slice a7 CP.length c7] := RV_lit w7 22 1 1 [.slice a7 CP.length c7] rfl (by unfold maxLen; omega)
                have ho8 := (ho7.mono (Nat.le_trans hbs.size hb6.size)).alloc (.cells #[.slice a7 CP.length c7] 22)
                have HO8 := Lib.hid ho8
                have HRV := Lib.hid hrv
                have HB8 := Lib.hid hb8
                clear ho7 ho8 hrv hb8
                go_wp2_with (at_builtin; refine wpList_appV rowsT _ rfl _ _ rfl w1.heap.size _ _ _ rfl (HV.out.below HB8.out) _ _ _ _ rfl HRV.out (fun u hu => by rw [List.mem_singleton] at hu; subst hu; rfl) ?c1 ?c2 ?c3 ?_)
                case c1 => omega
                case c2 => omega
                case c3 => have := HB8.out.size; have := hbs.size; omega
                intro v9 w9 ho9 hg9 hat9
                obtain ⟨a9, c9, rfl, -⟩ := ho9.form
                have hol9 := OL_app (HV.out.below HB8.out) HVL.out HCL.out (fun i u c h1 h2 => (HALL.out i u c h1 h2).below HB8.out) HO8.out ho9 hg9
                rw [← HCS.out] at hol9
                have hb9 : Below w1.heap.size w1 w9 := (below_then hbs HB8.out hbs.size).grown hg9 (by have := HB8.out.size; have := hbs.size; omega) (fun r e => HV.out.base r e)
                have HOL9 := Lib.hid hol9
                clear ho9 hg9 hat9 hol9
                go_wp2
                go_roundw
                case rel => exact ⟨k + 1, by omega, by first | go_num | (simp; done), ⟨_, _, _, rfl⟩, by rw [HLE.out]; exact HOL9.out, hb9⟩
                case measure => simp [intOf]; omega
          · obtain rfl : k = m := by omega
            go_wp2
            go_ret2
            exact ⟨_, by rw [HZ1.out]; rfl, by rw [HZ2.out, HLM.out]; exact hol, hbs⟩
end Go.Proofs.YtnjpaanjgbfbaaaGreat
/- The walk of chapter 11: the reference's Cut, all ways. -/
namespace Go.Proofs.YtnjpaanjgbfbaaaGreat
open Go.RowKit
theorem rcut_fun (a : Option Addr) (len cap : Nat) (b : List UInt8) (p : Option Addr) (m d : Nat) (l : List Int) (w : World) (hr : Rd w a len b) (hc : len ≤ cap) (hl : RI w p m l) :
    Calls Tryz.prog 38 #[.slice a len cap, .slice p m d] w fun e w' => ∃ v, e = .returned (.tuple #[v, .int .i64 (P.cutErr b l)]) ∧ OL w' w.heap.size v (P.cutL b l) ∧ Below w.heap.size w w' := by
  rcases hf : P.fits b l with _ | _
  · have e1 : P.cutErr b l = 1 := by unfold P.cutErr; rw [hf]; rfl
    have e2 : P.cutL b l = [] := by unfold P.cutL; rw [if_neg (by omega)]
    rw [e1, e2]
    exact (rcut_bad a len cap b p m d l w hr hl hf).mono fun e w' ⟨h1, h2⟩ => ⟨_, h1, OL.nil _ _, h2⟩
  · exact rcut_fit a len cap b p m d l w hr hc hl hf
end Go.Proofs.YtnjpaanjgbfbaaaGreat
/- The walks of chapter 11: the law's pages (are two lists of pages the same?), awake. -/
namespace Go.Proofs.YtnjpaanjgbfbaaaGreat
set_option linter.unusedVariables false
set_option linter.unusedSimpArgs false
open Go.RowKit

/-- A slice that reads as these rows of bytes. -/
def RL (w : World) (a : Option Addr) (n : Nat) (L : List (List UInt8)) : Prop :=
  L.length = n ∧ n ≤ maxLen ∧ ∀ i (h : i < L.length), ∃ p b k c, a = some p ∧ w.cell? (p.add i) = some (.slice b k c) ∧ Rd w b k L[i] ∧ k ≤ c
theorem OL.form {w : World} {n : Nat} {v : Value} {L : List (List UInt8)} (h : OL w n v L) : ∃ a c, v = .slice a L.length c ∧ RL w a L.length L ∧ L.length ≤ c := by
  obtain ⟨vs, h1, h2, h3⟩ := h
  obtain ⟨a, c, rfl, hr, hc, -⟩ := h1.form
  refine ⟨a, c, rfl, ⟨rfl, hr.2.1, fun i hi => ?_⟩, hc⟩
  obtain ⟨p, hp, hcell⟩ := hr.at i (by omega)
  have ho := h3 i vs[i] L[i] (List.getElem?_eq_getElem (by omega)) (List.getElem?_eq_getElem hi)
  obtain ⟨b, cb, hv, hrd, hcc, -⟩ := ho.form
  exact ⟨p, b, L[i].length, cb, hp, by rw [hcell, hv], hrd, hcc⟩
end Go.Proofs.YtnjpaanjgbfbaaaGreat
