/- The walks of chapter 8: Text, Bytes, and the reference's. Printed by gen_clt.py. -/
import Derived.Test.YtpdmhnppibfmkaaClL
import Derived.Test.YtpdmhnppibfmkaaCel4
namespace Go.Proofs.Ytpdmhnppibfmkaa
set_option linter.unusedVariables false
set_option linter.unusedSimpArgs false
open Go.RowKit

theorem tx_bad {l : List UInt8} (h : P.openErr l = 0) (hn : ¬ P.goodT l) : P.txErr l = 4 ∧ P.txL l = [] := by
  have e : P.txErr l = 4 := by unfold P.txErr; rw [if_neg (by simpa using h), if_neg hn]
  exact ⟨e, by unfold P.txL; rw [if_neg (by omega)]⟩
theorem tx_open {l : List UInt8} (h : P.openErr l ≠ 0) : P.txErr l = P.openErr l ∧ P.txL l = [] := by
  have e : P.txErr l = P.openErr l := by unfold P.txErr; rw [if_pos h]
  exact ⟨e, by unfold P.txL; rw [if_neg (by omega)]⟩
theorem tx_good {l : List UInt8} (h : P.openErr l = 0) (hn : P.goodT l) : P.txErr l = 0 ∧ P.txL l = (P.openBody l).take (P.openCount l) := by
  have e : P.txErr l = 0 := by unfold P.txErr; rw [if_neg (by simpa using h), if_pos hn]
  exact ⟨e, by unfold P.txL; rw [if_pos e]⟩
/-- What Text tells: a slice that reads as the text. -/
def TextEnd (w : World) (l : List UInt8) (e : Ending) (w' : World) : Prop :=
  ∃ a n c, e = .returned (.tuple #[.slice a n c, .int .i64 (P.txErr l)]) ∧ Rd w' a n (P.txL l) ∧ n ≤ c ∧ (∀ p, a = some p → w.heap.size ≤ p.block) ∧ Below w.heap.size w w'
theorem TextEnd.empty {w w' : World} {l : List UInt8} {E : Int} (h : P.txErr l = E ∧ P.txL l = []) (hb : Below w.heap.size w w') : TextEnd w l (.returned (.tuple #[.slice none 0 0, .int .i64 E])) w' :=
  ⟨Option.none, 0, 0, by rw [h.1], by rw [h.2]; exact Rd.nil _ _, Nat.le_refl _, (fun p hp => by cases hp), hb⟩
theorem tret2 {a b a' b' : Value} (h1 : a = a') (h2 : b = b') : Ending.returned (.tuple #[a, b]) = .returned (.tuple #[a', b']) := by rw [h1, h2]
set_option maxRecDepth 100000 in
set_option maxHeartbeats 1600000 in
theorem bytes_fun (a : Option Addr) (n ca : Nat) (t : List UInt8) (w : World) (hr : Rd w a n t) :
    Calls Try.prog 42 #[.slice a n ca] w fun e w' => ∃ v, e = .returned (.tuple #[v, .int .i64 (P.txtErr t)]) ∧ OB w' w.heap.size v (P.txtB t) ∧ Below w.heap.size w w' := by
  have hln := hr.1
  by_cases hlen : 1 ≤ n ∧ n ≤ 248
  case neg =>
    have e1 : P.txtErr t = 1 := by unfold P.txtErr; rw [if_neg (by omega)]
    have e2 : P.txtB t = [] := by unfold P.txtB; rw [if_neg (by omega)]
    rw [e1, e2]
    clear hr e1 e2 hln
    go_enter Try.func42, Try.ntmps42
    go_wp2
    all_goals
      first
        | (exfalso; omega)
        | (go_ret2; exact ⟨_, rfl, OB.nil _ _, Below.refl _ _⟩)
  case pos =>
    obtain ⟨hl1, hl2⟩ := hlen
    have e1 : P.txtErr t = 0 := by unfold P.txtErr; rw [if_pos (by omega)]
    have e3 := P.seal_txt t e1
    rw [hln] at e3
    have e2 : P.txtB t = P.sealB 4 0 n t := by unfold P.txtB P.sealB; rw [if_pos e1]; rw [hln, if_pos e3]; simp
    have HS := seal_fun 4 0 n a n ca t w hr
    rw [show P.sealErr 4 0 (n : Nat) t.length = 0 by rw [hln]; exact e3] at HS
    rw [e1, e2]
    have HS := Lib.hid HS
    have c1 : decide ((n : Int) < 1) = false := decide_eq_false (by omega)
    have c2 : decide (248 < (n : Int)) = false := decide_eq_false (by omega)
    generalize P.sealB 4 0 n t = K at *
    clear hr e1 e2 e3 hln
    go_enter Try.func42, Try.ntmps42
    go_wp2_with fail
    refine HS.out.mono ?_
    rintro e w1 ⟨v, rfl, ho, hb⟩
    go_wp2
    go_ret2
    exact ⟨_, rfl, ho, hb⟩
set_option maxRecDepth 100000 in
set_option maxHeartbeats 1600000 in
theorem rbytes_fun (a : Option Addr) (n ca : Nat) (t : List UInt8) (w : World) (hr : Rd w a n t) :
    Calls Try.prog 51 #[.slice a n ca] w fun e w' => ∃ v, e = .returned (.tuple #[v, .int .i64 (P.txtErr t)]) ∧ OB w' w.heap.size v (P.txtB t) ∧ Below w.heap.size w w' := by
  have hln := hr.1
  by_cases hlen : 1 ≤ n ∧ n ≤ 248
  case neg =>
    have e1 : P.txtErr t = 1 := by unfold P.txtErr; rw [if_neg (by omega)]
    have e2 : P.txtB t = [] := by unfold P.txtB; rw [if_neg (by omega)]
    rw [e1, e2]
    clear hr e1 e2 hln
    go_enter Try.func51, Try.ntmps51
    go_wp2
    all_goals
      first
        | (exfalso; omega)
        | (go_ret2; exact ⟨_, rfl, OB.nil _ _, Below.refl _ _⟩)
  case pos =>
    obtain ⟨hl1, hl2⟩ := hlen
    have e1 : P.txtErr t = 0 := by unfold P.txtErr; rw [if_pos (by omega)]
    have e3 := P.seal_txt t e1
    rw [hln] at e3
    have e2 : P.txtB t = P.sealB 4 0 n t := by unfold P.txtB P.sealB; rw [if_pos e1]; rw [hln, if_pos e3]; simp
    have HS := rseal_fun 4 0 n a n ca t w hr
    rw [show P.sealErr 4 0 (n : Nat) t.length = 0 by rw [hln]; exact e3] at HS
    rw [e1, e2]
    have HS := Lib.hid HS
    have c1 : decide ((n : Int) < 1) = false := decide_eq_false (by omega)
    have c2 : decide (248 < (n : Int)) = false := decide_eq_false (by omega)
    generalize P.sealB 4 0 n t = K at *
    clear hr e1 e2 e3 hln
    go_enter Try.func51, Try.ntmps51
    go_wp2_with fail
    refine HS.out.mono ?_
    rintro e w1 ⟨v, rfl, ho, hb⟩
    go_wp2
    go_ret2
    exact ⟨_, rfl, ho, hb⟩
set_option maxRecDepth 100000 in
set_option maxHeartbeats 1600000 in
theorem text_open (a : Option Addr) (len cap : Nat) (l : List UInt8) (w : World) (hr : Rd w a len l) (hc : len ≤ cap) (he : P.openErr l ≠ 0) :
    Calls Try.prog 43 #[.slice a len cap] w fun e w' => e = .returned (.tuple #[.slice none 0 0, .int .i64 (P.openErr l)]) ∧ Below w.heap.size w w' := by
  have c1 : (P.openErr l != 0) = true := by simpa using he
  have HO := Lib.hid (open_fun a len cap l w hr hc)
  generalize P.openErr l = E at *
  clear hr he
  go_enter Try.func43, Try.ntmps43
  go_wp2_with fail
  refine HO.out.mono ?_
  rintro e w1 ⟨v, rfl, hown, hb1⟩
  obtain ⟨av, pv, hv, -, -, -, -⟩ := hown.form
  subst hv
  clear hown
  go_wp2
  go_ret2
  exact ⟨rfl, hb1.alloc hb1.size _⟩
set_option maxRecDepth 100000 in
set_option maxHeartbeats 1600000 in
theorem text_form (a : Option Addr) (len cap : Nat) (l : List UInt8) (w : World) (hr : Rd w a len l) (hc : len ≤ cap) (he : P.openErr l = 0) (hf : ¬ (P.openKind l = 4 ∧ P.openLevel l = 0 ∧ 1 ≤ P.openCount l ∧ P.openCount l ≤ 248)) :
    Calls Try.prog 43 #[.slice a len cap] w fun e w' => e = .returned (.tuple #[.slice none 0 0, .int .i64 4]) ∧ Below w.heap.size w w' := by
  have HO := open_fun a len cap l w hr hc
  rw [he, show P.oK l = ((P.openKind l : Nat) : Int) by simp [P.oK, he], show P.oL l = ((P.openLevel l : Nat) : Int) by simp [P.oL, he], show P.oC l = ((P.openCount l : Nat) : Int) by simp [P.oC, he], show P.oB l = P.openBody l by simp [P.oB, he]] at HO
  have HO := Lib.hid HO
  have hBl := clbody_length he
  generalize P.openBody l = BD at *
  generalize P.openKind l = kk at *
  generalize P.openLevel l = lv at *
  generalize P.openCount l = ct at *
  clear hr he
  go_enter Try.func43, Try.ntmps43
  go_wp2_with fail
  refine HO.out.mono ?_
  rintro e w1 ⟨v, rfl, hown, hb1⟩
  obtain ⟨ga, pv, hv, hga, -, hr1, hpv⟩ := hown.pos (by omega)
  rw [hBl] at hv hr1 hpv
  subst hv
  have HR1 := Lib.hid hr1
  clear hown hr1
  have hb2 : Below w1.heap.size w1 (w1.alloc (.cells #[.int .i64 (kk : Nat), .int .i64 (lv : Nat), .int .i64 (ct : Nat), .slice (some ⟨ga, 0, none⟩) 248 pv] 42)) := (Below.refl _ w1).alloc (Nat.le_refl _) _
  have hk2 : (w1.alloc (.cells #[.int .i64 (kk : Nat), .int .i64 (lv : Nat), .int .i64 (ct : Nat), .slice (some ⟨ga, 0, none⟩) 248 pv] 42)).heap[w1.heap.size]? = _ := alloc_new _ _ _ rfl
  by_cases d1 : (kk : Int) = 4 <;> by_cases d2 : (lv : Int) = 0 <;> by_cases d3 : (ct : Int) < 1 <;> by_cases d4 : 248 < (ct : Int)
  all_goals
    first
      | (exfalso; omega)
      | (go_wp2_with fail
         all_goals
           first
             | (exfalso; omega)
             | (go_ret2; exact ⟨rfl, hb1.alloc hb1.size _⟩))
set_option maxRecDepth 100000 in
set_option maxHeartbeats 1600000 in
theorem text_tail (a : Option Addr) (len cap : Nat) (l : List UInt8) (w : World) (hr : Rd w a len l) (hc : len ≤ cap) (he : P.openErr l = 0) (hk : P.openKind l = 4) (hv : P.openLevel l = 0) (h1 : 1 ≤ P.openCount l) (h2 : P.openCount l ≤ 248) (hz : P.zeros ((P.openBody l).drop (P.openCount l)) = false) :
    Calls Try.prog 43 #[.slice a len cap] w fun e w' => e = .returned (.tuple #[.slice none 0 0, .int .i64 4]) ∧ Below w.heap.size w w' := by
  have HO := open_fun a len cap l w hr hc
  rw [he, show P.oK l = ((P.openKind l : Nat) : Int) by simp [P.oK, he], show P.oL l = ((P.openLevel l : Nat) : Int) by simp [P.oL, he], show P.oC l = ((P.openCount l : Nat) : Int) by simp [P.oC, he], show P.oB l = P.openBody l by simp [P.oB, he]] at HO
  have HO := Lib.hid HO
  have hBl := clbody_length he
  generalize P.openBody l = BD at *
  generalize P.openKind l = kk at *
  generalize P.openLevel l = lv at *
  generalize P.openCount l = ct at *
  have t1 : ((kk : Int) != 4) = false := by simp [hk]
  have t2 : ((lv : Int) != 0) = false := by simp [hv]
  have c1 : decide ((ct : Int) < 1) = false := decide_eq_false (by omega)
  have c2 : decide (248 < (ct : Int)) = false := decide_eq_false (by omega)
  have i1 : (0 : Int) ≤ (ct : Int) := by omega
  have i2 : (ct : Int) ≤ 248 := by omega
  clear hk hv
  clear hr he
  go_enter Try.func43, Try.ntmps43
  go_wp2_with fail
  refine HO.out.mono ?_
  rintro e w1 ⟨v, rfl, hown, hb1⟩
  obtain ⟨ga, pv, hv, hga, -, hr1, hpv⟩ := hown.pos (by omega)
  rw [hBl] at hv hr1 hpv
  subst hv
  have HR1 := Lib.hid hr1
  clear hown hr1
  have hb2 : Below w1.heap.size w1 (w1.alloc (.cells #[.int .i64 (kk : Nat), .int .i64 (lv : Nat), .int .i64 (ct : Nat), .slice (some ⟨ga, 0, none⟩) 248 pv] 42)) := (Below.refl _ w1).alloc (Nat.le_refl _) _
  have hk2 : (w1.alloc (.cells #[.int .i64 (kk : Nat), .int .i64 (lv : Nat), .int .i64 (ct : Nat), .slice (some ⟨ga, 0, none⟩) 248 pv] 42)).heap[w1.heap.size]? = _ := alloc_new _ _ _ rfl
  rcases Nat.lt_or_ge ct pv with hlg | hlg
  case inl =>
    have hcap : ¬ pv = ct := by omega
    have i4 : (ct : Int) ≤ (pv : Int) := by omega
    have hd : Rd (w1.alloc (.cells #[.int .i64 (kk : Nat), .int .i64 (lv : Nat), .int .i64 (ct : Nat), .slice (some ⟨ga, 0, none⟩) 248 pv] 42)) (some ⟨ga, ct, none⟩) (248 - ct) (BD.drop ct) := by
      have h := (HR1.out.below hb2).drop ct
      rwa [add_lit _ ct (by omega), Nat.zero_add] at h
    have HD := Lib.hid hd
    clear hd
    go_wp2_with fail
    generalize (w1.alloc (.cells #[.int .i64 (kk : Nat), .int .i64 (lv : Nat), .int .i64 (ct : Nat), .slice (some ⟨ga, 0, none⟩) 248 pv] 42)) = w2 at *
    have hbb2 := below_then hb1 hb2 hb1.size
    have HR2 := Lib.hid (HR1.out.below hb2)
    have gp := cell_blk hk2
    clear hk2
    refine (cnoughts_any _ _ _ (BD.drop ct) _ HD.out).mono ?_
    rw [hz]
    rintro e w4 ⟨rfl, rfl⟩
    go_wp2
    go_ret2
    exact ⟨rfl, hbb2⟩
  case inr =>
    obtain rfl : pv = ct := by omega
    have hd : Rd (w1.alloc (.cells #[.int .i64 (kk : Nat), .int .i64 (lv : Nat), .int .i64 (pv : Nat), .slice (some ⟨ga, 0, none⟩) 248 pv] 42)) (some ⟨ga, 0, none⟩) 0 (BD.drop pv) := by
      have e : BD.drop pv = [] := List.drop_eq_nil_of_le (by omega)
      rw [e]
      exact Rd.nil _ _
    have HD := Lib.hid hd
    clear hd
    go_wp2_with fail
    generalize (w1.alloc (.cells #[.int .i64 (kk : Nat), .int .i64 (lv : Nat), .int .i64 (pv : Nat), .slice (some ⟨ga, 0, none⟩) 248 pv] 42)) = w2 at *
    have hbb2 := below_then hb1 hb2 hb1.size
    have HR2 := Lib.hid (HR1.out.below hb2)
    have gp := cell_blk hk2
    clear hk2
    refine (cnoughts_any _ _ _ (BD.drop pv) _ HD.out).mono ?_
    rw [hz]
    rintro e w4 ⟨rfl, rfl⟩
    go_wp2
    go_ret2
    exact ⟨rfl, hbb2⟩
set_option maxRecDepth 100000 in
set_option maxHeartbeats 1600000 in
theorem text_good (a : Option Addr) (len cap : Nat) (l : List UInt8) (w : World) (hr : Rd w a len l) (hc : len ≤ cap) (he : P.openErr l = 0) (hk : P.openKind l = 4) (hv : P.openLevel l = 0) (h1 : 1 ≤ P.openCount l) (h2 : P.openCount l ≤ 248) (hz : P.zeros ((P.openBody l).drop (P.openCount l)) = true) :
    Calls Try.prog 43 #[.slice a len cap] w fun e w' => ∃ a c, e = .returned (.tuple #[.slice a (P.openCount l) c, .int .i64 0]) ∧ Rd w' a (P.openCount l) ((P.openBody l).take (P.openCount l)) ∧ P.openCount l ≤ c ∧ (∀ p, a = some p → w.heap.size ≤ p.block) ∧ Below w.heap.size w w' := by
  have HO := open_fun a len cap l w hr hc
  rw [he, show P.oK l = ((P.openKind l : Nat) : Int) by simp [P.oK, he], show P.oL l = ((P.openLevel l : Nat) : Int) by simp [P.oL, he], show P.oC l = ((P.openCount l : Nat) : Int) by simp [P.oC, he], show P.oB l = P.openBody l by simp [P.oB, he]] at HO
  have HO := Lib.hid HO
  have hBl := clbody_length he
  generalize P.openBody l = BD at *
  generalize P.openKind l = kk at *
  generalize P.openLevel l = lv at *
  generalize P.openCount l = ct at *
  have t1 : ((kk : Int) != 4) = false := by simp [hk]
  have t2 : ((lv : Int) != 0) = false := by simp [hv]
  have c1 : decide ((ct : Int) < 1) = false := decide_eq_false (by omega)
  have c2 : decide (248 < (ct : Int)) = false := decide_eq_false (by omega)
  have i1 : (0 : Int) ≤ (ct : Int) := by omega
  have i2 : (ct : Int) ≤ 248 := by omega
  clear hk hv
  clear hr he
  go_enter Try.func43, Try.ntmps43
  go_wp2_with fail
  refine HO.out.mono ?_
  rintro e w1 ⟨v, rfl, hown, hb1⟩
  obtain ⟨ga, pv, hv, hga, -, hr1, hpv⟩ := hown.pos (by omega)
  rw [hBl] at hv hr1 hpv
  subst hv
  have HR1 := Lib.hid hr1
  clear hown hr1
  have hb2 : Below w1.heap.size w1 (w1.alloc (.cells #[.int .i64 (kk : Nat), .int .i64 (lv : Nat), .int .i64 (ct : Nat), .slice (some ⟨ga, 0, none⟩) 248 pv] 42)) := (Below.refl _ w1).alloc (Nat.le_refl _) _
  have hk2 : (w1.alloc (.cells #[.int .i64 (kk : Nat), .int .i64 (lv : Nat), .int .i64 (ct : Nat), .slice (some ⟨ga, 0, none⟩) 248 pv] 42)).heap[w1.heap.size]? = _ := alloc_new _ _ _ rfl
  rcases Nat.lt_or_ge ct pv with hlg | hlg
  case inl =>
    have hcap : ¬ pv = ct := by omega
    have i4 : (ct : Int) ≤ (pv : Int) := by omega
    have hd : Rd (w1.alloc (.cells #[.int .i64 (kk : Nat), .int .i64 (lv : Nat), .int .i64 (ct : Nat), .slice (some ⟨ga, 0, none⟩) 248 pv] 42)) (some ⟨ga, ct, none⟩) (248 - ct) (BD.drop ct) := by
      have h := (HR1.out.below hb2).drop ct
      rwa [add_lit _ ct (by omega), Nat.zero_add] at h
    have HD := Lib.hid hd
    clear hd
    go_wp2_with fail
    generalize (w1.alloc (.cells #[.int .i64 (kk : Nat), .int .i64 (lv : Nat), .int .i64 (ct : Nat), .slice (some ⟨ga, 0, none⟩) 248 pv] 42)) = w2 at *
    have hbb2 := below_then hb1 hb2 hb1.size
    have HR2 := Lib.hid (HR1.out.below hb2)
    have gp := cell_blk hk2
    clear hk2
    refine (cnoughts_any _ _ _ (BD.drop ct) _ HD.out).mono ?_
    rw [hz]
    rintro e w4 ⟨rfl, rfl⟩
    go_wp2
    go_ret2
    exact ⟨some ⟨ga, 0, none⟩, _, rfl, HR2.out.take ct (by omega), by omega, (fun p hp => by cases hp; exact hga), hbb2⟩
  case inr =>
    obtain rfl : pv = ct := by omega
    have hd : Rd (w1.alloc (.cells #[.int .i64 (kk : Nat), .int .i64 (lv : Nat), .int .i64 (pv : Nat), .slice (some ⟨ga, 0, none⟩) 248 pv] 42)) (some ⟨ga, 0, none⟩) 0 (BD.drop pv) := by
      have e : BD.drop pv = [] := List.drop_eq_nil_of_le (by omega)
      rw [e]
      exact Rd.nil _ _
    have HD := Lib.hid hd
    clear hd
    go_wp2_with fail
    generalize (w1.alloc (.cells #[.int .i64 (kk : Nat), .int .i64 (lv : Nat), .int .i64 (pv : Nat), .slice (some ⟨ga, 0, none⟩) 248 pv] 42)) = w2 at *
    have hbb2 := below_then hb1 hb2 hb1.size
    have HR2 := Lib.hid (HR1.out.below hb2)
    have gp := cell_blk hk2
    clear hk2
    refine (cnoughts_any _ _ _ (BD.drop pv) _ HD.out).mono ?_
    rw [hz]
    rintro e w4 ⟨rfl, rfl⟩
    go_wp2
    go_ret2
    exact ⟨some ⟨ga, 0, none⟩, _, rfl, HR2.out.take pv (by omega), by omega, (fun p hp => by cases hp; exact hga), hbb2⟩
theorem text_fun (a : Option Addr) (len cap : Nat) (l : List UInt8) (w : World) (hr : Rd w a len l) (hc : len ≤ cap) : Calls Try.prog 43 #[.slice a len cap] w fun e w' => TextEnd w l e w' := by
  by_cases he : P.openErr l = 0
  case neg => exact (text_open a len cap l w hr hc he).mono fun e w' ⟨h1, h2⟩ => by subst h1; exact TextEnd.empty (tx_open he) h2
  by_cases hf : P.openKind l = 4 ∧ P.openLevel l = 0 ∧ 1 ≤ P.openCount l ∧ P.openCount l ≤ 248
  case neg => exact (text_form a len cap l w hr hc he hf).mono fun e w' ⟨h1, h2⟩ => by subst h1; exact TextEnd.empty (tx_bad he (fun h => hf ⟨h.1, h.2.1, h.2.2.1, h.2.2.2.1⟩)) h2
  obtain ⟨hk, hv, h1, h2⟩ := hf
  rcases hz : P.zeros ((P.openBody l).drop (P.openCount l)) with _ | _
  · exact (text_tail a len cap l w hr hc he hk hv h1 h2 hz).mono fun e w' ⟨h1, h2⟩ => by subst h1; exact TextEnd.empty (tx_bad he (fun h => by have := h.2.2.2.2; rw [hz] at this; cases this)) h2
  · obtain ⟨g1, g2⟩ := tx_good he ⟨hk, hv, h1, h2, hz⟩
    exact (text_good a len cap l w hr hc he hk hv h1 h2 hz).mono fun e w' ⟨a', c', h1, h2, h3, h4, h5⟩ => ⟨a', _, c', by rw [h1, g1], by rw [g2]; exact h2, h3, h4, h5⟩
set_option maxRecDepth 100000 in
set_option maxHeartbeats 1600000 in
theorem rtext_open (a : Option Addr) (len cap : Nat) (l : List UInt8) (w : World) (hr : Rd w a len l) (hc : len ≤ cap) (he : P.openErr l ≠ 0) :
    Calls Try.prog 47 #[.slice a len cap] w fun e w' => e = .returned (.tuple #[.slice none 0 0, .int .i64 (P.openErr l)]) ∧ Below w.heap.size w w' := by
  have c1 : (P.openErr l != 0) = true := by simpa using he
  have HO := Lib.hid (ropen_fun a len cap l w hr hc)
  generalize P.openErr l = E at *
  clear hr he
  go_enter Try.func47, Try.ntmps47
  go_wp2_with fail
  refine HO.out.mono ?_
  rintro e w1 ⟨v, rfl, hown, hb1⟩
  obtain ⟨av, pv, hv, -, -, -, -⟩ := hown.form
  subst hv
  clear hown
  go_wp2
  go_ret2
  exact ⟨rfl, hb1.alloc hb1.size _⟩
set_option maxRecDepth 100000 in
set_option maxHeartbeats 1600000 in
theorem rtext_form (a : Option Addr) (len cap : Nat) (l : List UInt8) (w : World) (hr : Rd w a len l) (hc : len ≤ cap) (he : P.openErr l = 0) (hf : ¬ (P.openKind l = 4 ∧ P.openLevel l = 0 ∧ 1 ≤ P.openCount l ∧ P.openCount l ≤ 248)) :
    Calls Try.prog 47 #[.slice a len cap] w fun e w' => e = .returned (.tuple #[.slice none 0 0, .int .i64 4]) ∧ Below w.heap.size w w' := by
  have HO := ropen_fun a len cap l w hr hc
  rw [he, show P.oK l = ((P.openKind l : Nat) : Int) by simp [P.oK, he], show P.oL l = ((P.openLevel l : Nat) : Int) by simp [P.oL, he], show P.oC l = ((P.openCount l : Nat) : Int) by simp [P.oC, he], show P.oB l = P.openBody l by simp [P.oB, he]] at HO
  have HO := Lib.hid HO
  have hBl := clbody_length he
  generalize P.openBody l = BD at *
  generalize P.openKind l = kk at *
  generalize P.openLevel l = lv at *
  generalize P.openCount l = ct at *
  clear hr he
  go_enter Try.func47, Try.ntmps47
  go_wp2_with fail
  refine HO.out.mono ?_
  rintro e w1 ⟨v, rfl, hown, hb1⟩
  obtain ⟨ga, pv, hv, hga, -, hr1, hpv⟩ := hown.pos (by omega)
  rw [hBl] at hv hr1 hpv
  subst hv
  have HR1 := Lib.hid hr1
  clear hown hr1
  have hb2 : Below w1.heap.size w1 (w1.alloc (.cells #[.int .i64 (kk : Nat), .int .i64 (lv : Nat), .int .i64 (ct : Nat), .slice (some ⟨ga, 0, none⟩) 248 pv] 42)) := (Below.refl _ w1).alloc (Nat.le_refl _) _
  have hk2 : (w1.alloc (.cells #[.int .i64 (kk : Nat), .int .i64 (lv : Nat), .int .i64 (ct : Nat), .slice (some ⟨ga, 0, none⟩) 248 pv] 42)).heap[w1.heap.size]? = _ := alloc_new _ _ _ rfl
  by_cases d1 : (kk : Int) = 4 <;> by_cases d2 : (lv : Int) = 0 <;> by_cases d3 : (ct : Int) < 1 <;> by_cases d4 : 248 < (ct : Int)
  all_goals
    first
      | (exfalso; omega)
      | (go_wp2_with fail
         all_goals
           first
             | (exfalso; omega)
             | (go_ret2; exact ⟨rfl, hb1.alloc hb1.size _⟩))
set_option maxRecDepth 100000 in
set_option maxHeartbeats 1600000 in
theorem rtext_tail (a : Option Addr) (len cap : Nat) (l : List UInt8) (w : World) (hr : Rd w a len l) (hc : len ≤ cap) (he : P.openErr l = 0) (hk : P.openKind l = 4) (hv : P.openLevel l = 0) (h1 : 1 ≤ P.openCount l) (h2 : P.openCount l ≤ 248) (hz : P.zeros ((P.openBody l).drop (P.openCount l)) = false) :
    Calls Try.prog 47 #[.slice a len cap] w fun e w' => e = .returned (.tuple #[.slice none 0 0, .int .i64 4]) ∧ Below w.heap.size w w' := by
  have HO := ropen_fun a len cap l w hr hc
  rw [he, show P.oK l = ((P.openKind l : Nat) : Int) by simp [P.oK, he], show P.oL l = ((P.openLevel l : Nat) : Int) by simp [P.oL, he], show P.oC l = ((P.openCount l : Nat) : Int) by simp [P.oC, he], show P.oB l = P.openBody l by simp [P.oB, he]] at HO
  have HO := Lib.hid HO
  have hBl := clbody_length he
  generalize P.openBody l = BD at *
  generalize P.openKind l = kk at *
  generalize P.openLevel l = lv at *
  generalize P.openCount l = ct at *
  have t1 : ((kk : Int) != 4) = false := by simp [hk]
  have t2 : ((lv : Int) != 0) = false := by simp [hv]
  have c1 : decide ((ct : Int) < 1) = false := decide_eq_false (by omega)
  have c2 : decide (248 < (ct : Int)) = false := decide_eq_false (by omega)
  have i1 : (0 : Int) ≤ (ct : Int) := by omega
  have i2 : (ct : Int) ≤ 248 := by omega
  clear hk hv
  clear hr he
  go_enter Try.func47, Try.ntmps47
  go_wp2_with fail
  refine HO.out.mono ?_
  rintro e w1 ⟨v, rfl, hown, hb1⟩
  obtain ⟨ga, pv, hv, hga, -, hr1, hpv⟩ := hown.pos (by omega)
  rw [hBl] at hv hr1 hpv
  subst hv
  have HR1 := Lib.hid hr1
  clear hown hr1
  have hb2 : Below w1.heap.size w1 (w1.alloc (.cells #[.int .i64 (kk : Nat), .int .i64 (lv : Nat), .int .i64 (ct : Nat), .slice (some ⟨ga, 0, none⟩) 248 pv] 42)) := (Below.refl _ w1).alloc (Nat.le_refl _) _
  have hk2 : (w1.alloc (.cells #[.int .i64 (kk : Nat), .int .i64 (lv : Nat), .int .i64 (ct : Nat), .slice (some ⟨ga, 0, none⟩) 248 pv] 42)).heap[w1.heap.size]? = _ := alloc_new _ _ _ rfl
  go_wp2_with fail
  generalize (w1.alloc (.cells #[.int .i64 (kk : Nat), .int .i64 (lv : Nat), .int .i64 (ct : Nat), .slice (some ⟨ga, 0, none⟩) 248 pv] 42)) = w2 at *
  have hbb2 := below_then hb1 hb2 hb1.size
  have HR2 := Lib.hid (HR1.out.below hb2)
  have gp := cell_blk hk2
  clear hk2
  refine (rzeros_any _ _ _ BD ct _ HR2.out (by omega)).mono ?_
  rw [hz]
  rintro e w4 ⟨rfl, rfl⟩
  go_wp2
  go_ret2
  exact ⟨rfl, hbb2⟩
set_option maxRecDepth 100000 in
set_option maxHeartbeats 1600000 in
theorem rtext_good (a : Option Addr) (len cap : Nat) (l : List UInt8) (w : World) (hr : Rd w a len l) (hc : len ≤ cap) (he : P.openErr l = 0) (hk : P.openKind l = 4) (hv : P.openLevel l = 0) (h1 : 1 ≤ P.openCount l) (h2 : P.openCount l ≤ 248) (hz : P.zeros ((P.openBody l).drop (P.openCount l)) = true) :
    Calls Try.prog 47 #[.slice a len cap] w fun e w' => ∃ a c, e = .returned (.tuple #[.slice a (P.openCount l) c, .int .i64 0]) ∧ Rd w' a (P.openCount l) ((P.openBody l).take (P.openCount l)) ∧ P.openCount l ≤ c ∧ (∀ p, a = some p → w.heap.size ≤ p.block) ∧ Below w.heap.size w w' := by
  have HO := ropen_fun a len cap l w hr hc
  rw [he, show P.oK l = ((P.openKind l : Nat) : Int) by simp [P.oK, he], show P.oL l = ((P.openLevel l : Nat) : Int) by simp [P.oL, he], show P.oC l = ((P.openCount l : Nat) : Int) by simp [P.oC, he], show P.oB l = P.openBody l by simp [P.oB, he]] at HO
  have HO := Lib.hid HO
  have hBl := clbody_length he
  generalize P.openBody l = BD at *
  generalize P.openKind l = kk at *
  generalize P.openLevel l = lv at *
  generalize P.openCount l = ct at *
  have t1 : ((kk : Int) != 4) = false := by simp [hk]
  have t2 : ((lv : Int) != 0) = false := by simp [hv]
  have c1 : decide ((ct : Int) < 1) = false := decide_eq_false (by omega)
  have c2 : decide (248 < (ct : Int)) = false := decide_eq_false (by omega)
  have i1 : (0 : Int) ≤ (ct : Int) := by omega
  have i2 : (ct : Int) ≤ 248 := by omega
  clear hk hv
  clear hr he
  go_enter Try.func47, Try.ntmps47
  go_wp2_with fail
  refine HO.out.mono ?_
  rintro e w1 ⟨v, rfl, hown, hb1⟩
  obtain ⟨ga, pv, hv, hga, -, hr1, hpv⟩ := hown.pos (by omega)
  rw [hBl] at hv hr1 hpv
  subst hv
  have HR1 := Lib.hid hr1
  clear hown hr1
  have hb2 : Below w1.heap.size w1 (w1.alloc (.cells #[.int .i64 (kk : Nat), .int .i64 (lv : Nat), .int .i64 (ct : Nat), .slice (some ⟨ga, 0, none⟩) 248 pv] 42)) := (Below.refl _ w1).alloc (Nat.le_refl _) _
  have hk2 : (w1.alloc (.cells #[.int .i64 (kk : Nat), .int .i64 (lv : Nat), .int .i64 (ct : Nat), .slice (some ⟨ga, 0, none⟩) 248 pv] 42)).heap[w1.heap.size]? = _ := alloc_new _ _ _ rfl
  go_wp2_with fail
  generalize (w1.alloc (.cells #[.int .i64 (kk : Nat), .int .i64 (lv : Nat), .int .i64 (ct : Nat), .slice (some ⟨ga, 0, none⟩) 248 pv] 42)) = w2 at *
  have hbb2 := below_then hb1 hb2 hb1.size
  have HR2 := Lib.hid (HR1.out.below hb2)
  have gp := cell_blk hk2
  clear hk2
  refine (rzeros_any _ _ _ BD ct _ HR2.out (by omega)).mono ?_
  rw [hz]
  rintro e w4 ⟨rfl, rfl⟩
  go_wp2
  go_ret2
  exact ⟨some ⟨ga, 0, none⟩, _, rfl, HR2.out.take ct (by omega), by omega, (fun p hp => by cases hp; exact hga), hbb2⟩
theorem rtext_fun (a : Option Addr) (len cap : Nat) (l : List UInt8) (w : World) (hr : Rd w a len l) (hc : len ≤ cap) : Calls Try.prog 47 #[.slice a len cap] w fun e w' => TextEnd w l e w' := by
  by_cases he : P.openErr l = 0
  case neg => exact (rtext_open a len cap l w hr hc he).mono fun e w' ⟨h1, h2⟩ => by subst h1; exact TextEnd.empty (tx_open he) h2
  by_cases hf : P.openKind l = 4 ∧ P.openLevel l = 0 ∧ 1 ≤ P.openCount l ∧ P.openCount l ≤ 248
  case neg => exact (rtext_form a len cap l w hr hc he hf).mono fun e w' ⟨h1, h2⟩ => by subst h1; exact TextEnd.empty (tx_bad he (fun h => hf ⟨h.1, h.2.1, h.2.2.1, h.2.2.2.1⟩)) h2
  obtain ⟨hk, hv, h1, h2⟩ := hf
  rcases hz : P.zeros ((P.openBody l).drop (P.openCount l)) with _ | _
  · exact (rtext_tail a len cap l w hr hc he hk hv h1 h2 hz).mono fun e w' ⟨h1, h2⟩ => by subst h1; exact TextEnd.empty (tx_bad he (fun h => by have := h.2.2.2.2; rw [hz] at this; cases this)) h2
  · obtain ⟨g1, g2⟩ := tx_good he ⟨hk, hv, h1, h2, hz⟩
    exact (rtext_good a len cap l w hr hc he hk hv h1 h2 hz).mono fun e w' ⟨a', c', h1, h2, h3, h4, h5⟩ => ⟨a', _, c', by rw [h1, g1], by rw [g2]; exact h2, h3, h4, h5⟩
end Go.Proofs.Ytpdmhnppibfmkaa
