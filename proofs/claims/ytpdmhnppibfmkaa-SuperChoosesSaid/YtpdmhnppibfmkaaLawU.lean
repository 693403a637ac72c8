/- The walks of the laws SuperChooses and SuperKnown. -/
import Derived.Test.YtpdmhnppibfmkaaLawS0
namespace Go.Proofs.Ytpdmhnppibfmkaa
set_option linter.unusedVariables false
set_option linter.unusedSimpArgs false
open Go.RowKit

set_option maxRecDepth 100000 in
set_option maxHeartbeats 1600000 in
theorem superChooses_walk (a1 : Option Addr) (n1 m1 : Nat) (l : List UInt8) (a2 : Option Addr) (n2 m2 : Nat) (k : List UInt8) (w : World) (hr : Rd w a1 n1 l) (hc : n1 ≤ m1) (hr2 : Rd w a2 n2 k) (hc2 : n2 ≤ m2) :
    Calls Try.prog 6 #[.slice a1 n1 m1, .slice a2 n2 m2] w fun e w' => e = .returned (.bool true) ∧ Below w.heap.size w w' := by
  have HR1 := Lib.hid hr
  have HR2 := Lib.hid hr2
  have HC := Lib.hid (fun w (h : Rd w a1 n1 l) (h2 : Rd w a2 n2 k) => choose_any a1 n1 m1 l a2 n2 m2 k w h hc h2 hc2)
  have HRC := Lib.hid (fun w (h : Rd w a1 n1 l) (h2 : Rd w a2 n2 k) => rchoose_any a1 n1 m1 l a2 n2 m2 k w h hc h2 hc2)
  generalize P.cS l k = y at *
  generalize P.cI l k = I at *
  generalize P.cE l k = E at *
  unfold supV at HC HRC
  clear hr hr2
  by_cases hg : n1 ≤ 2000 ∧ n2 ≤ 2000
  case neg =>
    have hq : 2000 < (n1 : Int) ∨ 2000 < (n2 : Int) := by omega
    clear hg
    go_enter Try.func6, Try.ntmps6
    go_wp2_with fail
    refine (awake7_any _).mono ?_
    rintro e w1 ⟨rfl, hb⟩
    go_wp2
    all_goals
      go_ret
      exact ⟨rfl, hb⟩
  case pos =>
    obtain ⟨hg1, hg2⟩ := hg
    have c1 : decide (2000 < (n1 : Int)) = false := decide_eq_false (by omega)
    have c2 : decide (2000 < (n2 : Int)) = false := decide_eq_false (by omega)
    go_enter Try.func6, Try.ntmps6
    go_wp2_with fail
    refine (awake7_any _).mono ?_
    rintro e w1 ⟨rfl, hb⟩
    go_wp2_with fail
    refine (HC.out _ (HR1.out.below hb) (HR2.out.below hb)).mono ?_
    rintro e w2 ⟨rfl, hb2⟩
    have hbb2 := below_then hb hb2 hb.size
    go_wp2_with fail
    have hb3 : Below w2.heap.size w2 (w2.alloc (.cells #[.int .i64 y.g, .int .i64 y.p, .int .i64 y.r, .int .i64 y.h, .int .i64 y.b, .int .i64 y.l, .int .i64 y.s, .int .i64 y.f] 23)) := (Below.refl _ w2).alloc (Nat.le_refl _) _
    have hk3 : (w2.alloc (.cells #[.int .i64 y.g, .int .i64 y.p, .int .i64 y.r, .int .i64 y.h, .int .i64 y.b, .int .i64 y.l, .int .i64 y.s, .int .i64 y.f] 23)).heap[w2.heap.size]? = _ := alloc_new _ _ _ rfl
    generalize w2.alloc (.cells #[.int .i64 y.g, .int .i64 y.p, .int .i64 y.r, .int .i64 y.h, .int .i64 y.b, .int .i64 y.l, .int .i64 y.s, .int .i64 y.f] 23) = w3 at *
    have hbb3 := below_then hbb2 hb3 hbb2.size
    have l3 := lt_of_block hk3
    refine (HRC.out _ (HR1.out.below hbb3) (HR2.out.below hbb3)).mono ?_
    rintro e w4 ⟨rfl, hb4⟩
    have hbb4 := below_then hbb3 hb4 hbb3.size
    have g := cell_blk ((hb4.block _ l3).trans hk3)
    have l4 : w2.heap.size < w4.heap.size := by have := hb4.size; omega
    clear hk3
    go_wp2
    go_ret
    exact ⟨by first | rfl | (simp; done), hbb4.alloc hbb4.size _⟩

def threeS : P.Sup := ⟨3, 8, 0, 0, 0, 0, 0, 0⟩
def fiveS : P.Sup := ⟨5, 8, 0, 0, 0, 0, 0, 0⟩
theorem zeros_bad : P.sErr (List.replicate 256 0) = 5 := by
  have h : P.openErr (List.replicate 256 0) = 5 := by decide +kernel
  have := (P.sErr_open (l := List.replicate 256 0) (by rw [h]; omega)).1
  rw [this, h]
set_option maxRecDepth 100000 in
set_option maxHeartbeats 3200000 in
theorem superKnown_walk (w : World) : Calls Try.prog 5 #[] w fun e w' => e = .returned (.bool true) ∧ Below w.heap.size w w' := by
  have hc3 : threeS.chk = 0 := by decide
  have hc5 : fiveS.chk = 0 := by decide
  have HE3 := Lib.hid (fun w => enc_fun threeS w)
  have HE5 := Lib.hid (fun w => enc_fun fiveS w)
  have HL3 := Lib.hid (P.Sup.page_length hc3)
  have HL5 := Lib.hid (P.Sup.page_length hc5)
  have p1 := P.pick_b threeS.page fiveS.page (by rw [(P.sErr_page hc3).2, (P.sErr_page hc5).2, (P.sErr_page hc5).1]; decide) (P.sErr_page hc5).1
  have p2 := P.pick_a threeS.page (List.replicate 256 0) ⟨(P.sErr_page hc3).1, .inl (by rw [zeros_bad]; omega)⟩
  have p3 := P.pick_n (List.replicate 256 0) (List.replicate 256 0) (by rw [zeros_bad]; omega) (by rw [zeros_bad]; omega)
  rw [(P.sErr_page hc5).2] at p1
  rw [(P.sErr_page hc3).2] at p2
  obtain ⟨K, hK⟩ : ∃ K, K = threeS.page := ⟨_, rfl⟩
  obtain ⟨L, hL⟩ : ∃ L, L = fiveS.page := ⟨_, rfl⟩
  rw [hc3, ← hK] at HE3
  rw [hc5, ← hL] at HE5
  rw [← hK] at HL3 p1 p2
  rw [← hL] at HL5 p1
  obtain ⟨Z, hZ⟩ : ∃ Z, Z = List.replicate 256 (0 : UInt8) := ⟨_, rfl⟩
  rw [← hZ] at p2 p3
  have HCH := fun a1 n1 m1 l a2 n2 m2 k w hr hc hr2 hc2 => choose_any a1 n1 m1 l a2 n2 m2 k w hr hc hr2 hc2
  have HC1 := fun a1 n1 m1 a2 n2 m2 w (hr : Rd w a1 n1 K) hc (hr2 : Rd w a2 n2 L) hc2 => choose_any a1 n1 m1 K a2 n2 m2 L w hr hc hr2 hc2
  have HC2 := fun a1 n1 m1 a2 n2 m2 w (hr : Rd w a1 n1 K) hc (hr2 : Rd w a2 n2 Z) hc2 => choose_any a1 n1 m1 K a2 n2 m2 Z w hr hc hr2 hc2
  have HC3 := fun a1 n1 m1 a2 n2 m2 w (hr : Rd w a1 n1 Z) hc (hr2 : Rd w a2 n2 Z) hc2 => choose_any a1 n1 m1 Z a2 n2 m2 Z w hr hc hr2 hc2
  rw [p1.1, p1.2.1, p1.2.2] at HC1
  rw [p2.1, p2.2.1, p2.2.2] at HC2
  rw [p3.1, p3.2.1, p3.2.2] at HC3
  have HC1 := Lib.hid HC1
  have HC2 := Lib.hid HC2
  have HC3 := Lib.hid HC3
  have HZ := Lib.hid hZ
  unfold supV threeS at HE3 HC2
  unfold supV fiveS at HE5 HC1
  unfold supV P.Sup.zero at HC3
  clear hc3 hc5 p1 p2 p3 hK hL hZ HCH
  have hmk : ∀ w, (Instr.makeSlice 24 (.int .i64 256) (.int .i64 256)).run Try.prog w = .ok (.slice (some ⟨w.heap.size, 0, none⟩) 256 256) (w.alloc (.cells (zrow 256) 5)) := make_z 256 (by omega)
  go_enter Try.func5, Try.ntmps5
  go_wp2_with fail
  refine (awake7_any _).mono ?_
  rintro e w1 ⟨rfl, hb1⟩
  go_wp2_with fail
  refine (HE3.out _).mono ?_
  rintro e w2 ⟨v2, rfl, ho2, hb2⟩
  have hbb2 := below_then hb1 hb2 hb1.size
  obtain ⟨a2, q2, hv2, hr2, hm2, -, -⟩ := ho2.form
  rw [HL3.out] at hv2 hr2 hm2
  subst hv2
  have HR2 := Lib.hid hr2
  clear ho2 hr2
  go_wp2_with fail
  refine (HE5.out _).mono ?_
  rintro e w3 ⟨v3, rfl, ho3, hb3⟩
  have hbb3 := below_then hbb2 hb3 hbb2.size
  obtain ⟨a3, q3, hv3, hr3, hm3, -, -⟩ := ho3.form
  rw [HL5.out] at hv3 hr3 hm3
  subst hv3
  have HR3 := Lib.hid hr3
  have HR2' := Lib.hid (HR2.out.below hb3)
  clear ho3 hr3
  go_wp2_with fail
  have hz := Rd_z w3 5 256 (by unfold maxLen; omega)
  rw [← HZ.out] at hz
  have hb4 : Below w3.heap.size w3 (w3.alloc (.cells (zrow 256) 5)) := (Below.refl _ w3).alloc (Nat.le_refl _) _
  generalize w3.alloc (.cells (zrow 256) 5) = w4 at *
  have hbb4 := below_then hbb3 hb4 hbb3.size
  have HZ4 := Lib.hid hz
  have HR24 := Lib.hid (HR2'.out.below hb4)
  have HR34 := Lib.hid (HR3.out.below hb4)
  clear hz
  refine (HC1.out _ _ _ _ _ _ _ HR24.out hm2 HR34.out hm3).mono ?_
  rintro e w5 ⟨rfl, hb5⟩
  have hbb5 := below_then hbb4 hb5 hbb4.size
  go_wp2_with fail
  have hb6 : Below w5.heap.size w5 (w5.alloc (.cells #[.int .i64 5, .int .i64 8, .int .i64 0, .int .i64 0, .int .i64 0, .int .i64 0, .int .i64 0, .int .i64 0] 23)) := (Below.refl _ w5).alloc (Nat.le_refl _) _
  have hk6 : (w5.alloc (.cells #[.int .i64 5, .int .i64 8, .int .i64 0, .int .i64 0, .int .i64 0, .int .i64 0, .int .i64 0, .int .i64 0] 23)).heap[w5.heap.size]? = _ := alloc_new _ _ _ rfl
  generalize w5.alloc (.cells #[.int .i64 5, .int .i64 8, .int .i64 0, .int .i64 0, .int .i64 0, .int .i64 0, .int .i64 0, .int .i64 0] 23) = w6 at *
  have hbb6 := below_then hbb5 hb6 hbb5.size
  have hb46 := hb5.trans (hb6.mono hb5.size)
  have l6 := lt_of_block hk6
  have HK6 := Lib.hid hk6
  clear hk6
  refine (HC2.out _ _ _ _ _ _ _ (HR24.out.below hb46) hm2 (HZ4.out.below hb46) (Nat.le_refl _)).mono ?_
  rintro e w7 ⟨rfl, hb7⟩
  have hbb7 := below_then hbb6 hb7 hbb6.size
  have HK7 := Lib.hid ((hb7.block _ l6).trans HK6.out)
  have l7 := lt_of_block HK7.out
  go_wp2_with fail
  have hb8 : Below w7.heap.size w7 (w7.alloc (.cells #[.int .i64 3, .int .i64 8, .int .i64 0, .int .i64 0, .int .i64 0, .int .i64 0, .int .i64 0, .int .i64 0] 23)) := (Below.refl _ w7).alloc (Nat.le_refl _) _
  have hk8 : (w7.alloc (.cells #[.int .i64 3, .int .i64 8, .int .i64 0, .int .i64 0, .int .i64 0, .int .i64 0, .int .i64 0, .int .i64 0] 23)).heap[w7.heap.size]? = _ := alloc_new _ _ _ rfl
  generalize w7.alloc (.cells #[.int .i64 3, .int .i64 8, .int .i64 0, .int .i64 0, .int .i64 0, .int .i64 0, .int .i64 0, .int .i64 0] 23) = w8 at *
  have hbb8 := below_then hbb7 hb8 hbb7.size
  have hb48 := hb46.trans ((hb7.trans (hb8.mono hb7.size)).mono hb46.size)
  have l8 := lt_of_block hk8
  have HK8 := Lib.hid hk8
  clear hk8
  refine (HC3.out _ _ _ _ _ _ _ (HZ4.out.below hb48) (Nat.le_refl _) (HZ4.out.below hb48) (Nat.le_refl _)).mono ?_
  rintro e w9 ⟨rfl, hb9⟩
  have hbb9 := below_then hbb8 hb9 hbb8.size
  have g6 := cell_blk ((hb9.block _ (lt_of_block ((hb8.block _ l7).trans HK7.out))).trans ((hb8.block _ l7).trans HK7.out))
  have g8 := cell_blk ((hb9.block _ l8).trans HK8.out)
  have l69 : w5.heap.size < w9.heap.size := by have := hb8.size; have := hb9.size; omega
  have l89 : w7.heap.size < w9.heap.size := by have := hb9.size; omega
  go_wp2
  go_ret
  exact ⟨by first | rfl | (simp; done), hbb9.alloc hbb9.size _⟩
end Go.Proofs.Ytpdmhnppibfmkaa
