/- The walk of chapter 11: Part. Printed by gen_chb.py. -/
import Derived.Test.YtpdmhnppibfmkaaChA
import Derived.Test.YtpdmhnppibfmkaaPgH
namespace Go.Proofs.Ytpdmhnppibfmkaa
set_option linter.unusedVariables false
set_option linter.unusedSimpArgs false
open Go.RowKit

theorem chbody_length {l : List UInt8} (h : P.openErr l = 0) : (P.openBody l).length = 248 := by
  have := P.openErr_len l h
  simp [P.openBody]
  omega
theorem get_nn (b : List UInt8) (a n : Int) : 0 ≤ (P.get b a n).1 := by
  unfold P.get
  split
  · simp only; split <;> omega
  · simp
theorem pt_bad {l : List UInt8} (h : P.openErr l = 0) (hn : ¬ P.goodC l) : P.ptErr l = 4 ∧ P.ptL l = [] ∧ P.ptN l = 0 := by
  have e : P.ptErr l = 4 := by unfold P.ptErr; rw [if_neg (by simpa using h), if_neg hn]
  exact ⟨e, by unfold P.ptL; rw [if_neg (by omega)], by unfold P.ptN; rw [if_neg (by omega)]⟩
theorem pt_open {l : List UInt8} (h : P.openErr l ≠ 0) : P.ptErr l = P.openErr l ∧ P.ptL l = [] ∧ P.ptN l = 0 := by
  have e : P.ptErr l = P.openErr l := by unfold P.ptErr; rw [if_pos h]
  exact ⟨e, by unfold P.ptL; rw [if_neg (by omega)], by unfold P.ptN; rw [if_neg (by omega)]⟩
theorem pt_good {l : List UInt8} (h : P.openErr l = 0) (hn : P.goodC l) : P.ptErr l = 0 ∧ P.ptL l = ((P.openBody l).drop 4).take (P.openCount l) ∧ P.ptN l = P.nxt l := by
  have e : P.ptErr l = 0 := by unfold P.ptErr; rw [if_neg (by simpa using h), if_pos hn]
  exact ⟨e, by unfold P.ptL; rw [if_pos e], by unfold P.ptN; rw [if_pos e]⟩
/-- What Part tells: a slice that reads as the part. -/
def PartEnd (w : World) (l : List UInt8) (e : Ending) (w' : World) : Prop :=
  ∃ a n c, e = .returned (.tuple #[.slice a n c, .int .i64 (P.ptN l), .int .i64 (P.ptErr l)]) ∧ Rd w' a n (P.ptL l) ∧ n ≤ c ∧ (∀ p, a = some p → w.heap.size ≤ p.block) ∧ Below w.heap.size w w'
theorem PartEnd.empty {w w' : World} {l : List UInt8} {E : Int} (h : P.ptErr l = E ∧ P.ptL l = [] ∧ P.ptN l = 0) (hb : Below w.heap.size w w') : PartEnd w l (.returned (.tuple #[.slice none 0 0, .int .i64 0, .int .i64 E])) w' :=
  ⟨Option.none, 0, 0, by rw [h.1, h.2.2], by rw [h.2.1]; exact Rd.nil _ _, Nat.le_refl _, (fun p hp => by cases hp), hb⟩
theorem ret3 {a b c a' b' c' : Value} (h1 : a = a') (h2 : b = b') (h3 : c = c') : Ending.returned (.tuple #[a, b, c]) = .returned (.tuple #[a', b', c']) := by rw [h1, h2, h3]
set_option maxRecDepth 100000 in
set_option maxHeartbeats 1600000 in
theorem part_open (a : Option Addr) (len cap : Nat) (l : List UInt8) (w : World) (hr : Rd w a len l) (hc : len ≤ cap) (he : P.openErr l ≠ 0) :
    Calls Try.prog 40 #[.slice a len cap] w fun e w' => e = .returned (.tuple #[.slice none 0 0, .int .i64 0, .int .i64 (P.openErr l)]) ∧ Below w.heap.size w w' := by
  have c1 : (P.openErr l != 0) = true := by simpa using he
  have HO := Lib.hid (open_fun a len cap l w hr hc)
  generalize P.openErr l = E at *
  clear hr he
  go_enter Try.func40, Try.ntmps40
  go_wp2_with fail
  refine HO.out.mono ?_
  rintro e w1 ⟨v, rfl, hown, hb1⟩
  obtain ⟨av, pv, hv, -, -, -, -⟩ := hown.form
  subst hv
  clear hown
  go_wp2
  exact bodyPost_ret (v := .tuple #[.slice none 0 0, .int .i64 0, .int .i64 E]) (by simp [results, Try.results40, go_sem]) rfl ⟨rfl, hb1.alloc hb1.size _⟩
set_option maxRecDepth 100000 in
set_option maxHeartbeats 1600000 in
theorem part_form (a : Option Addr) (len cap : Nat) (l : List UInt8) (w : World) (hr : Rd w a len l) (hc : len ≤ cap) (he : P.openErr l = 0)
    (hf : ¬ (P.openKind l = 5 ∧ P.openLevel l = 0 ∧ 1 ≤ P.openCount l ∧ P.openCount l ≤ 244)) :
    Calls Try.prog 40 #[.slice a len cap] w fun e w' => e = .returned (.tuple #[.slice none 0 0, .int .i64 0, .int .i64 4]) ∧ Below w.heap.size w w' := by
  have HO := open_fun a len cap l w hr hc
  rw [he, show P.oK l = ((P.openKind l : Nat) : Int) by simp [P.oK, he], show P.oL l = ((P.openLevel l : Nat) : Int) by simp [P.oL, he], show P.oC l = ((P.openCount l : Nat) : Int) by simp [P.oC, he], show P.oB l = P.openBody l by simp [P.oB, he]] at HO
  have HO := Lib.hid HO
  have hBl := chbody_length he
  generalize P.openBody l = BD at *
  generalize P.openKind l = kk at *
  generalize P.openLevel l = lv at *
  generalize P.openCount l = ct at *
  clear hr he
  go_enter Try.func40, Try.ntmps40
  go_wp2_with fail
  refine HO.out.mono ?_
  rintro e w1 ⟨v, rfl, hown, hb1⟩
  obtain ⟨ga, pv, hv, hga, -, hr1, hpv⟩ := hown.pos (by omega)
  rw [hBl] at hv hr1 hpv
  subst hv
  have HR1 := Lib.hid hr1
  clear hown hr1
  have hb2 : Below w1.heap.size w1 (w1.alloc (.cells #[.int .i64 (kk : Nat), .int .i64 (lv : Nat), .int .i64 (ct : Nat), .slice (some ⟨ga, 0, none⟩) 248 pv] 42)) := (Below.refl _ w1).alloc (Nat.le_refl _) _
  have hk2 : (w1.alloc (.cells #[.int .i64 (kk : Nat), .int .i64 (lv : Nat), .int .i64 (ct : Nat), .slice (some ⟨ga, 0, none⟩) 248 pv] 42)).heap[w1.heap.size]? = _ := alloc_new _ _ _ rfl
  go_wp2_with fail
  generalize (w1.alloc (.cells #[.int .i64 (kk : Nat), .int .i64 (lv : Nat), .int .i64 (ct : Nat), .slice (some ⟨ga, 0, none⟩) 248 pv] 42)) = w2 at *
  have hbb2 := below_then hb1 hb2 hb1.size
  have HR2 := Lib.hid (HR1.out.below hb2)
  have l2 := lt_of_block hk2
  refine (get_any _ _ _ BD 0 4 _ HR2.out (by omega)).mono ?_
  rintro e w3 ⟨rfl, hb3⟩
  have hbb3 := below_then hbb2 hb3 hbb2.size
  have HR3 := Lib.hid (HR2.out.below hb3)
  have gp := cell_blk ((hb3.block _ l2).trans hk2)
  generalize P.get BD 0 4 = GT at *
  obtain ⟨nx, gf⟩ := GT
  clear hk2
  by_cases d1 : (kk : Int) = 5 <;> by_cases d2 : (lv : Int) = 0
  all_goals
    go_wp2_with fail
    all_goals
      first
        | (exfalso; omega)
        | (exact bodyPost_ret (v := .tuple #[.slice none 0 0, .int .i64 0, .int .i64 4]) (by simp [results, Try.results40, go_sem]) rfl ⟨rfl, hbb3⟩)
set_option maxRecDepth 100000 in
set_option maxHeartbeats 1600000 in
theorem part_next (a : Option Addr) (len cap : Nat) (l : List UInt8) (w : World) (hr : Rd w a len l) (hc : len ≤ cap) (he : P.openErr l = 0)
    (hk : P.openKind l = 5) (hv : P.openLevel l = 0) (h1 : 1 ≤ P.openCount l) (h2 : P.openCount l ≤ 244)
    (hx : ¬ ((P.get (P.openBody l) 0 4).1 = 0 ∨ 2 ≤ (P.get (P.openBody l) 0 4).1 ∧ (P.get (P.openBody l) 0 4).1 < 4096 ∧ P.openCount l = 244)) :
    Calls Try.prog 40 #[.slice a len cap] w fun e w' => e = .returned (.tuple #[.slice none 0 0, .int .i64 0, .int .i64 4]) ∧ Below w.heap.size w w' := by
  have HO := open_fun a len cap l w hr hc
  rw [he, show P.oK l = ((P.openKind l : Nat) : Int) by simp [P.oK, he], show P.oL l = ((P.openLevel l : Nat) : Int) by simp [P.oL, he], show P.oC l = ((P.openCount l : Nat) : Int) by simp [P.oC, he], show P.oB l = P.openBody l by simp [P.oB, he]] at HO
  have HO := Lib.hid HO
  have hBl := chbody_length he
  generalize P.openBody l = BD at *
  generalize P.openKind l = kk at *
  generalize P.openLevel l = lv at *
  generalize P.openCount l = ct at *
  have t1 : ((kk : Int) != 5) = false := by simp [hk]
  have t2 : ((lv : Int) != 0) = false := by simp [hv]
  clear hr he hk hv
  go_enter Try.func40, Try.ntmps40
  go_wp2_with fail
  refine HO.out.mono ?_
  rintro e w1 ⟨v, rfl, hown, hb1⟩
  obtain ⟨ga, pv, hv, hga, -, hr1, hpv⟩ := hown.pos (by omega)
  rw [hBl] at hv hr1 hpv
  subst hv
  have HR1 := Lib.hid hr1
  clear hown hr1
  have hb2 : Below w1.heap.size w1 (w1.alloc (.cells #[.int .i64 (kk : Nat), .int .i64 (lv : Nat), .int .i64 (ct : Nat), .slice (some ⟨ga, 0, none⟩) 248 pv] 42)) := (Below.refl _ w1).alloc (Nat.le_refl _) _
  have hk2 : (w1.alloc (.cells #[.int .i64 (kk : Nat), .int .i64 (lv : Nat), .int .i64 (ct : Nat), .slice (some ⟨ga, 0, none⟩) 248 pv] 42)).heap[w1.heap.size]? = _ := alloc_new _ _ _ rfl
  go_wp2_with fail
  generalize (w1.alloc (.cells #[.int .i64 (kk : Nat), .int .i64 (lv : Nat), .int .i64 (ct : Nat), .slice (some ⟨ga, 0, none⟩) 248 pv] 42)) = w2 at *
  have hbb2 := below_then hb1 hb2 hb1.size
  have HR2 := Lib.hid (HR1.out.below hb2)
  have l2 := lt_of_block hk2
  refine (get_any _ _ _ BD 0 4 _ HR2.out (by omega)).mono ?_
  rintro e w3 ⟨rfl, hb3⟩
  have hbb3 := below_then hbb2 hb3 hbb2.size
  have HR3 := Lib.hid (HR2.out.below hb3)
  have gp := cell_blk ((hb3.block _ l2).trans hk2)
  obtain ⟨nx, hnx⟩ : ∃ nx, nx = (P.get BD 0 4).1 := ⟨_, rfl⟩
  have hnn := get_nn BD 0 4
  rw [← hnx] at hnn hx ⊢
  have HNX := Lib.hid hnx
  generalize (P.get BD 0 4).2 = gf at *
  have c1 : decide ((ct : Int) < 1) = false := decide_eq_false (by omega)
  have c2 : decide (244 < (ct : Int)) = false := decide_eq_false (by omega)
  clear hnx hk2
  have d0 : (nx == 0) = false := by simp; omega
  have d0' : (nx != 0) = true := by simp; omega
  rcases hon : decide (2 ≤ nx ∧ nx < 4096) with _ | _
  case' false => have hon' := of_decide_eq_false hon
  case' true => have hon' := of_decide_eq_true hon
  all_goals
    go_wp2_with (go_at_call 74; refine (chon_any nx _).mono ?_; rintro e w9 ⟨rfl, rfl⟩; rw [hon])
    all_goals
      first
        | (exfalso; omega)
        | (exact bodyPost_ret (v := .tuple #[.slice none 0 0, .int .i64 0, .int .i64 4]) (by simp [results, Try.results40, go_sem]) rfl ⟨rfl, hbb3⟩)
set_option maxRecDepth 100000 in
set_option maxHeartbeats 1600000 in
theorem part_tail (a : Option Addr) (len cap : Nat) (l : List UInt8) (w : World) (hr : Rd w a len l) (hc : len ≤ cap) (he : P.openErr l = 0)
    (hk : P.openKind l = 5) (hv : P.openLevel l = 0) (h1 : 1 ≤ P.openCount l) (h2 : P.openCount l ≤ 244)
    (hx : (P.get (P.openBody l) 0 4).1 = 0 ∨ 2 ≤ (P.get (P.openBody l) 0 4).1 ∧ (P.get (P.openBody l) 0 4).1 < 4096 ∧ P.openCount l = 244)
    (hz : P.zeros ((P.openBody l).drop (4 + P.openCount l)) = false) :
    Calls Try.prog 40 #[.slice a len cap] w fun e w' => e = .returned (.tuple #[.slice none 0 0, .int .i64 0, .int .i64 4]) ∧ Below w.heap.size w w' := by
  have HO := open_fun a len cap l w hr hc
  rw [he, show P.oK l = ((P.openKind l : Nat) : Int) by simp [P.oK, he], show P.oL l = ((P.openLevel l : Nat) : Int) by simp [P.oL, he], show P.oC l = ((P.openCount l : Nat) : Int) by simp [P.oC, he], show P.oB l = P.openBody l by simp [P.oB, he]] at HO
  have HO := Lib.hid HO
  have hBl := chbody_length he
  generalize P.openBody l = BD at *
  generalize P.openKind l = kk at *
  generalize P.openLevel l = lv at *
  generalize P.openCount l = ct at *
  have t1 : ((kk : Int) != 5) = false := by simp [hk]
  have t2 : ((lv : Int) != 0) = false := by simp [hv]
  clear hr he hk hv
  go_enter Try.func40, Try.ntmps40
  go_wp2_with fail
  refine HO.out.mono ?_
  rintro e w1 ⟨v, rfl, hown, hb1⟩
  obtain ⟨ga, pv, hv, hga, -, hr1, hpv⟩ := hown.pos (by omega)
  rw [hBl] at hv hr1 hpv
  subst hv
  have HR1 := Lib.hid hr1
  clear hown hr1
  have hb2 : Below w1.heap.size w1 (w1.alloc (.cells #[.int .i64 (kk : Nat), .int .i64 (lv : Nat), .int .i64 (ct : Nat), .slice (some ⟨ga, 0, none⟩) 248 pv] 42)) := (Below.refl _ w1).alloc (Nat.le_refl _) _
  have hk2 : (w1.alloc (.cells #[.int .i64 (kk : Nat), .int .i64 (lv : Nat), .int .i64 (ct : Nat), .slice (some ⟨ga, 0, none⟩) 248 pv] 42)).heap[w1.heap.size]? = _ := alloc_new _ _ _ rfl
  go_wp2_with fail
  generalize (w1.alloc (.cells #[.int .i64 (kk : Nat), .int .i64 (lv : Nat), .int .i64 (ct : Nat), .slice (some ⟨ga, 0, none⟩) 248 pv] 42)) = w2 at *
  have hbb2 := below_then hb1 hb2 hb1.size
  have HR2 := Lib.hid (HR1.out.below hb2)
  have l2 := lt_of_block hk2
  refine (get_any _ _ _ BD 0 4 _ HR2.out (by omega)).mono ?_
  rintro e w3 ⟨rfl, hb3⟩
  have hbb3 := below_then hbb2 hb3 hbb2.size
  have HR3 := Lib.hid (HR2.out.below hb3)
  have gp := cell_blk ((hb3.block _ l2).trans hk2)
  obtain ⟨nx, hnx⟩ : ∃ nx, nx = (P.get BD 0 4).1 := ⟨_, rfl⟩
  have hnn := get_nn BD 0 4
  rw [← hnx] at hnn hx ⊢
  have HNX := Lib.hid hnx
  generalize (P.get BD 0 4).2 = gf at *
  have c1 : decide ((ct : Int) < 1) = false := decide_eq_false (by omega)
  have c2 : decide (244 < (ct : Int)) = false := decide_eq_false (by omega)
  clear hnx hk2
  obtain ⟨M, hM⟩ : ∃ M, M = 4 + ct := ⟨_, rfl⟩
  have hadd : (4 : Int) + (ct : Int) = (M : Int) := by omega
  have i1 : (0 : Int) ≤ (M : Int) := by omega
  have i2 : (M : Int) ≤ 248 := by omega
  have i3 : (4 : Int) ≤ (M : Int) := by omega
  have hm8 : M ≤ 248 := by omega
  have hm5 : 5 ≤ M := by omega
  rw [← hM] at hz
  have HM := Lib.hid hM
  clear hM
  rcases Nat.lt_or_ge M pv with hlg | hlg
  case inl =>
    have hcap : ¬ pv = M := by omega
    have hcap4 : ¬ pv = 4 := by omega
    have i4 : (M : Int) ≤ (pv : Int) := by omega
    have HD : Hid (Rd w3 (some ⟨ga, M, none⟩) (248 - M) (BD.drop M)) := by
      have h := HR3.out.drop M
      rw [add_lit _ M (by omega), Nat.zero_add] at h
      exact Lib.hid h
    rcases hx with h0 | ⟨ha, hb, hd⟩
    case inl =>
      have d0 : (nx == 0) = true := by simp [h0]
      have d0' : (nx != 0) = false := by simp [h0]
      have d4 : decide (4096 ≤ nx) = false := decide_eq_false (by omega)
      have d5 : (nx == 1) = false := by simp [h0]
      clear h0
      go_wp2_with fail
      refine (chnoughts_any _ _ _ (BD.drop M) _ HD.out).mono ?_
      rw [hz]
      rintro e w4 ⟨rfl, rfl⟩
      go_wp2
      all_goals
        first
          | (exfalso; omega)
          | (exact bodyPost_ret (v := .tuple #[.slice none 0 0, .int .i64 0, .int .i64 4]) (by simp [results, Try.results40, go_sem]) rfl ⟨rfl, hbb3⟩)
    case inr =>
      have d0' : (nx != 0) = true := by simp; omega
      have hon : decide (2 ≤ nx ∧ nx < 4096) = true := decide_eq_true ⟨ha, hb⟩
      have d3 : ((ct : Int) != 244) = false := by simp [hd]
      have d4 : decide (4096 ≤ nx) = false := decide_eq_false (by omega)
      have d5 : (nx == 1) = false := by simp; omega
      clear hd
      go_wp2_with (go_at_call 74; refine (chon_any nx _).mono ?_; rintro e w9 ⟨rfl, rfl⟩; rw [hon])
      refine (chnoughts_any _ _ _ (BD.drop M) _ HD.out).mono ?_
      rw [hz]
      rintro e w4 ⟨rfl, rfl⟩
      go_wp2
      all_goals
        first
          | (exfalso; omega)
          | (exact bodyPost_ret (v := .tuple #[.slice none 0 0, .int .i64 0, .int .i64 4]) (by simp [results, Try.results40, go_sem]) rfl ⟨rfl, hbb3⟩)
  case inr =>
    obtain rfl : pv = M := by omega
    have hcap4 : ¬ pv = 4 := by omega
    have HD : Hid (Rd w3 (some ⟨ga, 0, none⟩) 0 (BD.drop pv)) := by
      have e : BD.drop pv = [] := List.drop_eq_nil_of_le (by omega)
      rw [e]
      exact Lib.hid (Rd.nil _ _)
    rcases hx with h0 | ⟨ha, hb, hd⟩
    case inl =>
      have d0 : (nx == 0) = true := by simp [h0]
      have d0' : (nx != 0) = false := by simp [h0]
      have d4 : decide (4096 ≤ nx) = false := decide_eq_false (by omega)
      have d5 : (nx == 1) = false := by simp [h0]
      clear h0
      go_wp2_with fail
      refine (chnoughts_any _ _ _ (BD.drop pv) _ HD.out).mono ?_
      rw [hz]
      rintro e w4 ⟨rfl, rfl⟩
      go_wp2
      all_goals
        first
          | (exfalso; omega)
          | (exact bodyPost_ret (v := .tuple #[.slice none 0 0, .int .i64 0, .int .i64 4]) (by simp [results, Try.results40, go_sem]) rfl ⟨rfl, hbb3⟩)
    case inr =>
      have d0' : (nx != 0) = true := by simp; omega
      have hon : decide (2 ≤ nx ∧ nx < 4096) = true := decide_eq_true ⟨ha, hb⟩
      have d3 : ((ct : Int) != 244) = false := by simp [hd]
      have d4 : decide (4096 ≤ nx) = false := decide_eq_false (by omega)
      have d5 : (nx == 1) = false := by simp; omega
      clear hd
      go_wp2_with (go_at_call 74; refine (chon_any nx _).mono ?_; rintro e w9 ⟨rfl, rfl⟩; rw [hon])
      refine (chnoughts_any _ _ _ (BD.drop pv) _ HD.out).mono ?_
      rw [hz]
      rintro e w4 ⟨rfl, rfl⟩
      go_wp2
      all_goals
        first
          | (exfalso; omega)
          | (exact bodyPost_ret (v := .tuple #[.slice none 0 0, .int .i64 0, .int .i64 4]) (by simp [results, Try.results40, go_sem]) rfl ⟨rfl, hbb3⟩)
set_option maxRecDepth 100000 in
set_option maxHeartbeats 1600000 in
theorem part_good (a : Option Addr) (len cap : Nat) (l : List UInt8) (w : World) (hr : Rd w a len l) (hc : len ≤ cap) (he : P.openErr l = 0)
    (hk : P.openKind l = 5) (hv : P.openLevel l = 0) (h1 : 1 ≤ P.openCount l) (h2 : P.openCount l ≤ 244)
    (hx : (P.get (P.openBody l) 0 4).1 = 0 ∨ 2 ≤ (P.get (P.openBody l) 0 4).1 ∧ (P.get (P.openBody l) 0 4).1 < 4096 ∧ P.openCount l = 244)
    (hz : P.zeros ((P.openBody l).drop (4 + P.openCount l)) = true) :
    Calls Try.prog 40 #[.slice a len cap] w fun e w' => ∃ a c, e = .returned (.tuple #[.slice a (P.openCount l) c, .int .i64 (P.get (P.openBody l) 0 4).1, .int .i64 0]) ∧ Rd w' a (P.openCount l) (((P.openBody l).drop 4).take (P.openCount l)) ∧ P.openCount l ≤ c ∧ (∀ p, a = some p → w.heap.size ≤ p.block) ∧ Below w.heap.size w w' := by
  have HO := open_fun a len cap l w hr hc
  rw [he, show P.oK l = ((P.openKind l : Nat) : Int) by simp [P.oK, he], show P.oL l = ((P.openLevel l : Nat) : Int) by simp [P.oL, he], show P.oC l = ((P.openCount l : Nat) : Int) by simp [P.oC, he], show P.oB l = P.openBody l by simp [P.oB, he]] at HO
  have HO := Lib.hid HO
  have hBl := chbody_length he
  generalize P.openBody l = BD at *
  generalize P.openKind l = kk at *
  generalize P.openLevel l = lv at *
  generalize P.openCount l = ct at *
  have t1 : ((kk : Int) != 5) = false := by simp [hk]
  have t2 : ((lv : Int) != 0) = false := by simp [hv]
  clear hr he hk hv
  go_enter Try.func40, Try.ntmps40
  go_wp2_with fail
  refine HO.out.mono ?_
  rintro e w1 ⟨v, rfl, hown, hb1⟩
  obtain ⟨ga, pv, hv, hga, -, hr1, hpv⟩ := hown.pos (by omega)
  rw [hBl] at hv hr1 hpv
  subst hv
  have HR1 := Lib.hid hr1
  clear hown hr1
  have hb2 : Below w1.heap.size w1 (w1.alloc (.cells #[.int .i64 (kk : Nat), .int .i64 (lv : Nat), .int .i64 (ct : Nat), .slice (some ⟨ga, 0, none⟩) 248 pv] 42)) := (Below.refl _ w1).alloc (Nat.le_refl _) _
  have hk2 : (w1.alloc (.cells #[.int .i64 (kk : Nat), .int .i64 (lv : Nat), .int .i64 (ct : Nat), .slice (some ⟨ga, 0, none⟩) 248 pv] 42)).heap[w1.heap.size]? = _ := alloc_new _ _ _ rfl
  go_wp2_with fail
  generalize (w1.alloc (.cells #[.int .i64 (kk : Nat), .int .i64 (lv : Nat), .int .i64 (ct : Nat), .slice (some ⟨ga, 0, none⟩) 248 pv] 42)) = w2 at *
  have hbb2 := below_then hb1 hb2 hb1.size
  have HR2 := Lib.hid (HR1.out.below hb2)
  have l2 := lt_of_block hk2
  refine (get_any _ _ _ BD 0 4 _ HR2.out (by omega)).mono ?_
  rintro e w3 ⟨rfl, hb3⟩
  have hbb3 := below_then hbb2 hb3 hbb2.size
  have HR3 := Lib.hid (HR2.out.below hb3)
  have gp := cell_blk ((hb3.block _ l2).trans hk2)
  obtain ⟨nx, hnx⟩ : ∃ nx, nx = (P.get BD 0 4).1 := ⟨_, rfl⟩
  have hnn := get_nn BD 0 4
  rw [← hnx] at hnn hx ⊢
  have HNX := Lib.hid hnx
  generalize (P.get BD 0 4).2 = gf at *
  have c1 : decide ((ct : Int) < 1) = false := decide_eq_false (by omega)
  have c2 : decide (244 < (ct : Int)) = false := decide_eq_false (by omega)
  clear hnx hk2
  obtain ⟨M, hM⟩ : ∃ M, M = 4 + ct := ⟨_, rfl⟩
  have hadd : (4 : Int) + (ct : Int) = (M : Int) := by omega
  have i1 : (0 : Int) ≤ (M : Int) := by omega
  have i2 : (M : Int) ≤ 248 := by omega
  have i3 : (4 : Int) ≤ (M : Int) := by omega
  have hm8 : M ≤ 248 := by omega
  have hm5 : 5 ≤ M := by omega
  rw [← hM] at hz
  have HM := Lib.hid hM
  clear hM
  rcases Nat.lt_or_ge M pv with hlg | hlg
  case inl =>
    have hcap : ¬ pv = M := by omega
    have hcap4 : ¬ pv = 4 := by omega
    have i4 : (M : Int) ≤ (pv : Int) := by omega
    have HD : Hid (Rd w3 (some ⟨ga, M, none⟩) (248 - M) (BD.drop M)) := by
      have h := HR3.out.drop M
      rw [add_lit _ M (by omega), Nat.zero_add] at h
      exact Lib.hid h
    rcases hx with h0 | ⟨ha, hb, hd⟩
    case inl =>
      have d0 : (nx == 0) = true := by simp [h0]
      have d0' : (nx != 0) = false := by simp [h0]
      have d4 : decide (4096 ≤ nx) = false := decide_eq_false (by omega)
      have d5 : (nx == 1) = false := by simp [h0]
      clear h0
      go_wp2_with fail
      refine (chnoughts_any _ _ _ (BD.drop M) _ HD.out).mono ?_
      rw [hz]
      rintro e w4 ⟨rfl, rfl⟩
      go_wp2
      all_goals
        first
          | (exfalso; omega)
          | (exact bodyPost_ret (v := .tuple #[.slice (some ⟨ga, 4, none⟩) (M - 4) (M - 4), .int .i64 nx, .int .i64 0]) (by simp [results, Try.results40, go_sem]) rfl ⟨some ⟨ga, 4, none⟩, ct, by rw [show M - 4 = ct by (have := HM.out; omega), HNX.out], by have h := (HR3.out.drop 4).take ct (by omega); rw [add_lit _ 4 (by omega)] at h; exact h, by have := HM.out; omega, (fun p hp => by cases hp; exact hga), hbb3⟩)
    case inr =>
      have d0' : (nx != 0) = true := by simp; omega
      have hon : decide (2 ≤ nx ∧ nx < 4096) = true := decide_eq_true ⟨ha, hb⟩
      have d3 : ((ct : Int) != 244) = false := by simp [hd]
      have d4 : decide (4096 ≤ nx) = false := decide_eq_false (by omega)
      have d5 : (nx == 1) = false := by simp; omega
      clear hd
      go_wp2_with (go_at_call 74; refine (chon_any nx _).mono ?_; rintro e w9 ⟨rfl, rfl⟩; rw [hon])
      refine (chnoughts_any _ _ _ (BD.drop M) _ HD.out).mono ?_
      rw [hz]
      rintro e w4 ⟨rfl, rfl⟩
      go_wp2
      all_goals
        first
          | (exfalso; omega)
          | (exact bodyPost_ret (v := .tuple #[.slice (some ⟨ga, 4, none⟩) (M - 4) (M - 4), .int .i64 nx, .int .i64 0]) (by simp [results, Try.results40, go_sem]) rfl ⟨some ⟨ga, 4, none⟩, ct, by rw [show M - 4 = ct by (have := HM.out; omega), HNX.out], by have h := (HR3.out.drop 4).take ct (by omega); rw [add_lit _ 4 (by omega)] at h; exact h, by have := HM.out; omega, (fun p hp => by cases hp; exact hga), hbb3⟩)
  case inr =>
    obtain rfl : pv = M := by omega
    have hcap4 : ¬ pv = 4 := by omega
    have HD : Hid (Rd w3 (some ⟨ga, 0, none⟩) 0 (BD.drop pv)) := by
      have e : BD.drop pv = [] := List.drop_eq_nil_of_le (by omega)
      rw [e]
      exact Lib.hid (Rd.nil _ _)
    rcases hx with h0 | ⟨ha, hb, hd⟩
    case inl =>
      have d0 : (nx == 0) = true := by simp [h0]
      have d0' : (nx != 0) = false := by simp [h0]
      have d4 : decide (4096 ≤ nx) = false := decide_eq_false (by omega)
      have d5 : (nx == 1) = false := by simp [h0]
      clear h0
      go_wp2_with fail
      refine (chnoughts_any _ _ _ (BD.drop pv) _ HD.out).mono ?_
      rw [hz]
      rintro e w4 ⟨rfl, rfl⟩
      go_wp2
      all_goals
        first
          | (exfalso; omega)
          | (exact bodyPost_ret (v := .tuple #[.slice (some ⟨ga, 4, none⟩) (pv - 4) (pv - 4), .int .i64 nx, .int .i64 0]) (by simp [results, Try.results40, go_sem]) rfl ⟨some ⟨ga, 4, none⟩, ct, by rw [show pv - 4 = ct by (have := HM.out; omega), HNX.out], by have h := (HR3.out.drop 4).take ct (by omega); rw [add_lit _ 4 (by omega)] at h; exact h, by have := HM.out; omega, (fun p hp => by cases hp; exact hga), hbb3⟩)
    case inr =>
      have d0' : (nx != 0) = true := by simp; omega
      have hon : decide (2 ≤ nx ∧ nx < 4096) = true := decide_eq_true ⟨ha, hb⟩
      have d3 : ((ct : Int) != 244) = false := by simp [hd]
      have d4 : decide (4096 ≤ nx) = false := decide_eq_false (by omega)
      have d5 : (nx == 1) = false := by simp; omega
      clear hd
      go_wp2_with (go_at_call 74; refine (chon_any nx _).mono ?_; rintro e w9 ⟨rfl, rfl⟩; rw [hon])
      refine (chnoughts_any _ _ _ (BD.drop pv) _ HD.out).mono ?_
      rw [hz]
      rintro e w4 ⟨rfl, rfl⟩
      go_wp2
      all_goals
        first
          | (exfalso; omega)
          | (exact bodyPost_ret (v := .tuple #[.slice (some ⟨ga, 4, none⟩) (pv - 4) (pv - 4), .int .i64 nx, .int .i64 0]) (by simp [results, Try.results40, go_sem]) rfl ⟨some ⟨ga, 4, none⟩, ct, by rw [show pv - 4 = ct by (have := HM.out; omega), HNX.out], by have h := (HR3.out.drop 4).take ct (by omega); rw [add_lit _ 4 (by omega)] at h; exact h, by have := HM.out; omega, (fun p hp => by cases hp; exact hga), hbb3⟩)
theorem part_fun (a : Option Addr) (len cap : Nat) (l : List UInt8) (w : World) (hr : Rd w a len l) (hc : len ≤ cap) :
    Calls Try.prog 40 #[.slice a len cap] w fun e w' => PartEnd w l e w' := by
  by_cases he : P.openErr l = 0
  case neg => exact (part_open a len cap l w hr hc he).mono fun e w' ⟨h1, h2⟩ => by subst h1; exact PartEnd.empty (pt_open he) h2
  by_cases hf : P.openKind l = 5 ∧ P.openLevel l = 0 ∧ 1 ≤ P.openCount l ∧ P.openCount l ≤ 244
  case neg => exact (part_form a len cap l w hr hc he hf).mono fun e w' ⟨h1, h2⟩ => by subst h1; exact PartEnd.empty (pt_bad he (fun h => hf ⟨h.1, h.2.1, h.2.2.1, h.2.2.2.1⟩)) h2
  obtain ⟨hk, hv, h1, h2⟩ := hf
  by_cases hx : ((P.get (P.openBody l) 0 4).1 = 0 ∨ 2 ≤ (P.get (P.openBody l) 0 4).1 ∧ (P.get (P.openBody l) 0 4).1 < 4096 ∧ P.openCount l = 244)
  case neg => exact (part_next a len cap l w hr hc he hk hv h1 h2 hx).mono fun e w' ⟨h1, h2⟩ => by subst h1; exact PartEnd.empty (pt_bad he (fun h => hx h.2.2.2.2.1)) h2
  rcases hz : P.zeros ((P.openBody l).drop (4 + P.openCount l)) with _ | _
  · exact (part_tail a len cap l w hr hc he hk hv h1 h2 hx hz).mono fun e w' ⟨h1, h2⟩ => by subst h1; exact PartEnd.empty (pt_bad he (fun h => by have := h.2.2.2.2.2; rw [hz] at this; cases this)) h2
  · obtain ⟨g1, g2, g3⟩ := pt_good he ⟨hk, hv, h1, h2, hx, hz⟩
    exact (part_good a len cap l w hr hc he hk hv h1 h2 hx hz).mono fun e w' ⟨a', c', h1, h2, h3, h4, h5⟩ => ⟨a', _, c', by rw [h1, g1, g3]; rfl, by rw [g2]; exact h2, h3, h4, h5⟩
end Go.Proofs.Ytpdmhnppibfmkaa
