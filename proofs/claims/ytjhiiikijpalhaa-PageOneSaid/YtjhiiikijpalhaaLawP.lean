/- The walks of the laws PageSeals and PageKnown. -/
import Derived.Test.YtjhiiikijpalhaaPgH
namespace Go.Proofs.Ytjhiiikijpalhaa
set_option linter.unusedVariables false
set_option linter.unusedSimpArgs false
open Go.RowKit

set_option maxHeartbeats 1600000 in
theorem pageSeals_walk (k l c : Int) (a : Option Addr) (n m : Nat) (b : List UInt8) (a2 : Option Addr) (n2 m2 : Nat) (b2 : List UInt8) (w : World)
    (_hk : -9223372036854775808 ≤ k ∧ k ≤ 9223372036854775807) (_hl : -9223372036854775808 ≤ l ∧ l ≤ 9223372036854775807) (_hc : -9223372036854775808 ≤ c ∧ c ≤ 9223372036854775807)
    (hr : Rd w a n b) (_hm : n ≤ m) (hr2 : Rd w a2 n2 b2) (hm2 : n2 ≤ m2) :
    Calls Try.prog 9 #[.agg #[.int .i64 k, .int .i64 l, .int .i64 c, .slice a n m], .slice a2 n2 m2] w fun e w' => e = .returned (.bool true) ∧ Below w.heap.size w w' := by
  have HR := Lib.hid hr
  have HR2 := Lib.hid hr2
  clear hr hr2 _hk _hl _hc
  by_cases hg : n ≤ 2000 ∧ n2 ≤ 2000
  case neg =>
    have hq : 2000 < (n : Int) ∨ 2000 < (n2 : Int) := by omega
    clear hg
    go_enter Try.func9, Try.ntmps9
    go_wp2_with fail
    refine (awake6_any _).mono ?_
    rintro e w1 ⟨rfl, hb1⟩
    have hb := below_alloc1 hb1
    have hk := made_below hb1
    have g := cell_blk hk
    clear hk hb1
    go_wp2
    all_goals
      go_ret
      exact ⟨rfl, hb⟩
  case pos =>
    obtain ⟨hg1, hg2⟩ := hg
    have c1 : decide (2000 < (n : Int)) = false := decide_eq_false (by omega)
    have c2 : decide (2000 < (n2 : Int)) = false := decide_eq_false (by omega)
    go_enter Try.func9, Try.ntmps9
    go_wp2_with fail
    refine (awake6_any _).mono ?_
    rintro e w1 ⟨rfl, hb1⟩
    have hb := below_alloc1 hb1
    have hk := made_below hb1
    have HK := Lib.hid hk
    have hlt := lt_of_block hk
    have g := cell_blk hk
    clear hk hb1
    go_wp2_with fail
    refine (seal_fun _ _ _ _ _ _ b _ (HR.out.below hb)).mono ?_
    rintro e w2 ⟨v2, rfl, ho2, hb2⟩
    obtain ⟨a3, p3, hv2, hr3, -, -, -⟩ := ho2.form
    subst hv2
    have HR3 := Lib.hid hr3
    have hk2 := (hb2.block _ hlt).trans HK.out
    have g2 := cell_blk hk2
    clear ho2 hr3 g hk2
    go_wp2_with fail
    refine (rseal_fun _ _ _ _ _ _ b _ (HR.out.below (below_then hb hb2 hb.size))).mono ?_
    rintro e w3 ⟨v3, rfl, ho3, hb3⟩
    obtain ⟨a4, p4, hv3, hr4, -, -, -⟩ := ho3.form
    subst hv3
    have HR4 := Lib.hid hr4
    have hb3' := below_then (below_then hb hb2 hb.size) hb3 (Nat.le_trans hb.size hb2.size)
    clear ho3 hr4 g2
    go_wp2_with fail
    refine (open_fun _ _ _ b2 _ (HR2.out.below hb3') hm2).mono ?_
    rintro e w4 ⟨v4, rfl, ho4, hb4⟩
    have hb4' := below_then hb3' hb4 hb3'.size
    obtain ⟨a5, p5, hv4, hr5, -, -, -⟩ := ho4.form
    subst hv4
    have HR5 := Lib.hid hr5
    clear ho4 hr5
    go_wp2_with fail
    have hb5 : Below w4.heap.size w4 (w4.alloc (.cells #[.int .i64 (P.oK b2), .int .i64 (P.oL b2), .int .i64 (P.oC b2), .slice a5 (P.oB b2).length p5] 40)) := (Below.refl _ w4).alloc (Nat.le_refl _) _
    have hk5 : (w4.alloc (.cells #[.int .i64 (P.oK b2), .int .i64 (P.oL b2), .int .i64 (P.oC b2), .slice a5 (P.oB b2).length p5] 40)).heap[w4.heap.size]? = _ := alloc_new _ _ _ rfl
    have hlt5 : w4.heap.size < (w4.alloc (.cells #[.int .i64 (P.oK b2), .int .i64 (P.oL b2), .int .i64 (P.oC b2), .slice a5 (P.oB b2).length p5] 40)).heap.size := by simp
    generalize w4.alloc (.cells #[.int .i64 (P.oK b2), .int .i64 (P.oL b2), .int .i64 (P.oC b2), .slice a5 (P.oB b2).length p5] 40) = w5 at *
    have hb5' := below_then hb4' hb5 hb4'.size
    have HK5 := Lib.hid hk5
    clear hk5
    refine (ropen_fun _ _ _ b2 _ (HR2.out.below hb5') hm2).mono ?_
    rintro e w6 ⟨v6, rfl, ho6, hb6⟩
    have hb6' := below_then hb5' hb6 hb5'.size
    obtain ⟨a6, p6, hv6, hr6, -, -, -⟩ := ho6.form
    subst hv6
    have HR6 := Lib.hid hr6
    have hk6 := (hb6.block _ hlt5).trans HK5.out
    have HK6 := Lib.hid hk6
    clear ho6 hr6 hk6
    go_wp2_with fail
    have hb7 : Below w6.heap.size w6 (w6.alloc (.cells #[.int .i64 (P.oK b2), .int .i64 (P.oL b2), .int .i64 (P.oC b2), .slice a6 (P.oB b2).length p6] 40)) := (Below.refl _ w6).alloc (Nat.le_refl _) _
    have hk7 : (w6.alloc (.cells #[.int .i64 (P.oK b2), .int .i64 (P.oL b2), .int .i64 (P.oC b2), .slice a6 (P.oB b2).length p6] 40)).heap[w6.heap.size]? = _ := alloc_new _ _ _ rfl
    have hk7' : (w6.alloc (.cells #[.int .i64 (P.oK b2), .int .i64 (P.oL b2), .int .i64 (P.oC b2), .slice a6 (P.oB b2).length p6] 40)).heap[w4.heap.size]? = _ := alloc_old HK6.out _
    have hlt6 : w6.heap.size < (w6.alloc (.cells #[.int .i64 (P.oK b2), .int .i64 (P.oL b2), .int .i64 (P.oC b2), .slice a6 (P.oB b2).length p6] 40)).heap.size := by simp
    generalize w6.alloc (.cells #[.int .i64 (P.oK b2), .int .i64 (P.oL b2), .int .i64 (P.oC b2), .slice a6 (P.oB b2).length p6] 40) = w7 at *
    have hb7' := below_then hb6' hb7 hb6'.size
    have HK7 := Lib.hid hk7
    have HK7' := Lib.hid hk7'
    clear hk7 hk7'
    have r3 := ((((HR3.out.below hb3).below hb4).below hb5).below hb6).below hb7
    have r4 := (((HR4.out.below hb4).below hb5).below hb6).below hb7
    have H3 := Lib.hid r3
    have H4 := Lib.hid r4
    clear r3 r4
    refine (same_refl _ _ _ _ _ _ _ H3.out H4.out).mono ?_
    rintro e w8 ⟨rfl, hb8⟩
    have hb8' := below_then hb7' hb8 hb7'.size
    have hk8 := (hb8.block _ hlt6).trans HK7.out
    have hk8' := (hb8.block _ (Nat.lt_of_lt_of_le hlt5 (Nat.le_trans hb6.size hb7.size))).trans HK7'.out
    have g8 := cell_blk hk8
    have g8' := cell_blk hk8'
    clear hk8 hk8'
    go_wp2_with fail
    refine (psame_any _ _ _ _ _ _ _ _ _ _ _ _ _ _ _ ((((HR5.out.below hb5).below hb6).below hb7).below hb8) ((HR6.out.below hb7).below hb8)).mono ?_
    rintro e w9 ⟨rfl, hb9⟩
    rw [show decide (P.oK b2 = P.oK b2 ∧ P.oL b2 = P.oL b2 ∧ P.oC b2 = P.oC b2 ∧ P.oB b2 = P.oB b2) = true by simp]
    clear g8 g8'
    go_wp2
    go_ret
    exact ⟨by first | rfl | (simp; done), below_then hb8' hb9 hb8'.size⟩

theorem zeros_open : P.openErr (List.replicate 256 0) = 5 := by decide +kernel
theorem zero_seal : P.sealErr 0 0 0 ([] : List UInt8).length = 1 := by decide
theorem long_seal : P.sealErr 1 0 0 (List.replicate 249 (0 : UInt8)).length = 3 := by rw [List.length_replicate]; decide
theorem nil_open : P.openErr [] = 1 := by decide

def blank249 : Array Value := (bvs (List.replicate 249 0)).toArray
theorem Rd_rep (w : World) (t : TypeId) (n : Nat) (hn : n ≤ maxLen) : Rd (w.alloc (.cells (bvs (List.replicate n 0)).toArray t)) (some ⟨w.heap.size, 0, none⟩) n (List.replicate n 0) := by
  have h := Rd_lit w t (List.replicate n 0) (fr := (0, 0)) (by simpa using hn)
  simpa using h

set_option maxHeartbeats 1600000 in
theorem pageKnown_walk (w : World) :
    Calls Try.prog 8 #[] w fun e w' => e = .returned (.bool true) ∧ Below w.heap.size w w' := by
  have hmk : ∀ w, (Instr.makeSlice 22 (.int .i64 256) (.int .i64 256)).run Try.prog w = .ok (.slice (some ⟨w.heap.size, 0, none⟩) 256 256) (w.alloc (.cells blank 5)) := fun _ => by kernel_rfl
  have hml : ∀ w, (Instr.makeSlice 22 (.int .i64 249) (.int .i64 249)).run Try.prog w = .ok (.slice (some ⟨w.heap.size, 0, none⟩) 249 249) (w.alloc (.cells blank249 5)) := fun _ => by kernel_rfl
  go_enter Try.func8, Try.ntmps8
  go_wp2_with fail
  refine (awake6_any _).mono ?_
  rintro e w1 ⟨rfl, hb1⟩
  go_wp2_with fail
  refine (open_fun _ _ _ (List.replicate 256 0) _ (Rd_rep w1 5 256 (by simp [maxLen])) (Nat.le_refl _)).mono ?_
  rintro e w2 ⟨v2, rfl, ho2, hb2⟩
  have hb2' := below_then hb1 (below_alloc1 hb2) hb1.size
  obtain ⟨a2, p2, hv2, -, -, -, -⟩ := ho2.form
  subst hv2
  rw [zeros_open]
  clear ho2 hb2
  generalize P.oB (List.replicate 256 0) = B2
  generalize P.oK (List.replicate 256 0) = K2
  generalize P.oL (List.replicate 256 0) = L2
  generalize P.oC (List.replicate 256 0) = C2
  go_wp2_with fail
  have hb3' := hb2'.alloc hb2'.size (.cells #[.int .i64 K2, .int .i64 L2, .int .i64 C2, .slice a2 B2.length p2] 40)
  refine (seal_fun _ _ _ _ _ _ [] _ (Rd.nil _ _)).mono ?_
  rintro e w3 ⟨v3, rfl, ho3, hb3⟩
  rw [zero_seal]
  have hb4' := below_then hb3' hb3 hb3'.size
  obtain ⟨a3, p3, hv3, -, -, -, -⟩ := ho3.form
  subst hv3
  clear ho3 hb3 hb3' hb2' 
  generalize P.sealB 0 0 0 [] = S3
  go_wp2_with fail
  refine (seal_fun _ _ _ _ _ _ (List.replicate 249 0) _ (Rd_rep w3 5 249 (by simp [maxLen]))).mono ?_
  rintro e w4 ⟨v4, rfl, ho4, hb4⟩
  rw [long_seal]
  have hb5' := below_then hb4' (below_alloc1 hb4) hb4'.size
  obtain ⟨a4, p4, hv4, -, -, -, -⟩ := ho4.form
  subst hv4
  clear ho4 hb4 hb4'
  generalize P.sealB 1 0 0 (List.replicate 249 0) = S4
  go_wp2_with fail
  refine (open_fun _ _ _ [] _ (Rd.nil _ _) (Nat.le_refl _)).mono ?_
  rintro e w5 ⟨v5, rfl, ho5, hb5⟩
  rw [nil_open]
  have hb6' := below_then hb5' hb5 hb5'.size
  obtain ⟨a5, p5, hv5, -, -, -, -⟩ := ho5.form
  subst hv5
  clear ho5 hb5 hb5'
  go_wp2
  go_ret
  exact ⟨rfl, hb6'.alloc hb6'.size _⟩
end Go.Proofs.Ytjhiiikijpalhaa
