/- The walk of the law PageOne. -/
import Derived.Test.YtjhiiikijpalhaaLawQ
namespace Go.Proofs.Ytjhiiikijpalhaa
set_option linter.unusedVariables false
set_option linter.unusedSimpArgs false
open Go.RowKit

set_option maxRecDepth 100000 in
set_option maxHeartbeats 1600000 in
theorem one_long (k1 l1 c1 : Int) (a1 : Option Addr) (n1 m1 : Nat) (b1 : List UInt8) (k2 l2 c2 : Int) (a2 : Option Addr) (n2 m2 : Nat) (b2 : List UInt8) (a9 : Option Addr) (n3 m3 : Nat) (r : List UInt8) (w : World)
    (hr1 : Rd w a1 n1 b1) (hr2 : Rd w a2 n2 b2) (hr3 : Rd w a9 n3 r) (hm3 : n3 ≤ m3) (hq : (1000 < (n1 : Int) ∨ 1000 < (n2 : Int)) ∨ 1000 < (n3 : Int)) :
    Calls Try.prog 11 #[.agg #[.int .i64 k1, .int .i64 l1, .int .i64 c1, .slice a1 n1 m1], .agg #[.int .i64 k2, .int .i64 l2, .int .i64 c2, .slice a2 n2 m2], .slice a9 n3 m3] w fun e w' => e = .returned (.bool true) ∧ Below w.heap.size w w' := by
    have HR1 := Lib.hid hr1
    have HR2 := Lib.hid hr2
    have HR3 := Lib.hid hr3
    clear hr1 hr2 hr3
    go_enter Try.func11, Try.ntmps11
    go_wp2_with fail
    have hbA : Below w.heap.size w ((w.alloc (.cells #[.int .i64 k1, .int .i64 l1, .int .i64 c1, .slice a1 n1 m1] 40)).alloc (.cells #[.int .i64 k2, .int .i64 l2, .int .i64 c2, .slice a2 n2 m2] 40)) := ((Below.refl _ w).alloc (Nat.le_refl _) _).alloc (by simp) _
    have hA : ((w.alloc (.cells #[.int .i64 k1, .int .i64 l1, .int .i64 c1, .slice a1 n1 m1] 40)).alloc (.cells #[.int .i64 k2, .int .i64 l2, .int .i64 c2, .slice a2 n2 m2] 40)).heap[w.heap.size]? = _ := alloc_old (alloc_new _ _ _ rfl) _
    have hB : ((w.alloc (.cells #[.int .i64 k1, .int .i64 l1, .int .i64 c1, .slice a1 n1 m1] 40)).alloc (.cells #[.int .i64 k2, .int .i64 l2, .int .i64 c2, .slice a2 n2 m2] 40)).heap[w.heap.size + 1]? = _ := alloc_new _ _ _ (by simp)
    generalize (w.alloc (.cells #[.int .i64 k1, .int .i64 l1, .int .i64 c1, .slice a1 n1 m1] 40)).alloc (.cells #[.int .i64 k2, .int .i64 l2, .int .i64 c2, .slice a2 n2 m2] 40) = w0 at *
    refine (awake6_any _).mono ?_
    rintro e w1 ⟨rfl, hb1⟩
    have hb1' := below_then hbA hb1 hbA.size
    have hA1 := (hb1.block _ (lt_of_block hA)).trans hA
    have hB1 := (hb1.block _ (lt_of_block hB)).trans hB
    have HA1 := Lib.hid hA1
    have HB1 := Lib.hid hB1
    have gA := cell_blk hA1
    have gB := cell_blk hB1
    clear hA hB hA1 hB1 hbA hb1
    go_wp2
    all_goals
      go_ret
      exact ⟨rfl, hb1'⟩

set_option maxRecDepth 100000 in
set_option maxHeartbeats 1600000 in
theorem one_bb (k1 l1 c1 : Int) (a1 : Option Addr) (n1 m1 : Nat) (b1 : List UInt8) (k2 l2 c2 : Int) (a2 : Option Addr) (n2 m2 : Nat) (b2 : List UInt8) (a9 : Option Addr) (n3 m3 : Nat) (r : List UInt8) (w : World)
    (hr1 : Rd w a1 n1 b1) (hr2 : Rd w a2 n2 b2) (hr3 : Rd w a9 n3 r) (hm3 : n3 ≤ m3) (h1 : n1 ≤ 1000) (h2 : n2 ≤ 1000) (h3 : n3 ≤ 1000) (hg : P.openErr r ≠ 0) (he : P.sealErr k1 l1 c1 b1.length ≠ 0 ∨ P.sealErr k2 l2 c2 b2.length ≠ 0) :
    Calls Try.prog 11 #[.agg #[.int .i64 k1, .int .i64 l1, .int .i64 c1, .slice a1 n1 m1], .agg #[.int .i64 k2, .int .i64 l2, .int .i64 c2, .slice a2 n2 m2], .slice a9 n3 m3] w fun e w' => e = .returned (.bool true) ∧ Below w.heap.size w w' := by
    have HR1 := Lib.hid hr1
    have HR2 := Lib.hid hr2
    have HR3 := Lib.hid hr3
    clear hr1 hr2 hr3
    have t1 : decide (1000 < (n1 : Int)) = false := decide_eq_false (by omega)
    have t2 : decide (1000 < (n2 : Int)) = false := decide_eq_false (by omega)
    have t3 : decide (1000 < (n3 : Int)) = false := decide_eq_false (by omega)
    have d1 : (P.openErr r == 0) = false := by rw [beq_eq_false_iff_ne]; exact hg
    have hq : (P.sealErr k1 l1 c1 b1.length != 0) = true ∨ (P.sealErr k2 l2 c2 b2.length != 0) = true := by
      rw [bne_iff_ne, bne_iff_ne]; exact he
    have HQQ := Lib.hid hq
    clear hg he hq
    go_enter Try.func11, Try.ntmps11
    go_wp2_with fail
    have hbA : Below w.heap.size w ((w.alloc (.cells #[.int .i64 k1, .int .i64 l1, .int .i64 c1, .slice a1 n1 m1] 40)).alloc (.cells #[.int .i64 k2, .int .i64 l2, .int .i64 c2, .slice a2 n2 m2] 40)) := ((Below.refl _ w).alloc (Nat.le_refl _) _).alloc (by simp) _
    have hA : ((w.alloc (.cells #[.int .i64 k1, .int .i64 l1, .int .i64 c1, .slice a1 n1 m1] 40)).alloc (.cells #[.int .i64 k2, .int .i64 l2, .int .i64 c2, .slice a2 n2 m2] 40)).heap[w.heap.size]? = _ := alloc_old (alloc_new _ _ _ rfl) _
    have hB : ((w.alloc (.cells #[.int .i64 k1, .int .i64 l1, .int .i64 c1, .slice a1 n1 m1] 40)).alloc (.cells #[.int .i64 k2, .int .i64 l2, .int .i64 c2, .slice a2 n2 m2] 40)).heap[w.heap.size + 1]? = _ := alloc_new _ _ _ (by simp)
    generalize (w.alloc (.cells #[.int .i64 k1, .int .i64 l1, .int .i64 c1, .slice a1 n1 m1] 40)).alloc (.cells #[.int .i64 k2, .int .i64 l2, .int .i64 c2, .slice a2 n2 m2] 40) = w0 at *
    refine (awake6_any _).mono ?_
    rintro e w1 ⟨rfl, hb1⟩
    have hb1' := below_then hbA hb1 hbA.size
    have hA1 := (hb1.block _ (lt_of_block hA)).trans hA
    have hB1 := (hb1.block _ (lt_of_block hB)).trans hB
    have HA1 := Lib.hid hA1
    have HB1 := Lib.hid hB1
    have gA := cell_blk hA1
    have gB := cell_blk hB1
    clear hA hB hA1 hB1 hbA hb1
    go_wp2_with fail
    refine (seal_fun _ _ _ _ _ _ b1 _ (HR1.out.below hb1')).mono ?_
    rintro e w2 ⟨v2, rfl, ho2, hb2⟩
    obtain ⟨a3, p3, hv2, hr3, hp3, -, -⟩ := ho2.form
    subst hv2
    have HX2 := Lib.hid hr3
    have hb2' := below_then hb1' hb2 hb1'.size
    have hA2 := (hb2.block _ (lt_of_block HA1.out)).trans HA1.out
    have hB2 := (hb2.block _ (lt_of_block HB1.out)).trans HB1.out
    have HB2 := Lib.hid hB2
    clear gA gB
    have gA := cell_blk hA2
    have gB := cell_blk hB2
    clear ho2 hr3 hA2 hB2
    go_wp2_with fail
    refine (seal_fun _ _ _ _ _ _ b2 _ (HR2.out.below hb2')).mono ?_
    rintro e w3 ⟨v3, rfl, ho3, hb3⟩
    obtain ⟨a4, p4, hv3, hr4, hp4, -, -⟩ := ho3.form
    subst hv3
    have HY3 := Lib.hid hr4
    have HX3 := Lib.hid (HX2.out.below hb3)
    have hb3' := below_then hb2' hb3 hb2'.size
    clear ho3 hr4 gA gB
    go_wp2_with fail
    refine (open_fun _ _ _ r _ (HR3.out.below hb3') hm3).mono ?_
    rintro e w4 ⟨v4, rfl, ho4, hb4⟩
    obtain ⟨a5, p5, hv4, hr5, -, -, -⟩ := ho4.form
    subst hv4
    have hb4' := below_then hb3' hb4 hb3'.size
    have HX4 := Lib.hid (HX3.out.below hb4)
    have HY4 := Lib.hid (HY3.out.below hb4)
    have HR5 := Lib.hid hr5
    clear ho4 hr5
    have hbP : Below w4.heap.size w4 (w4.alloc (.cells #[.int .i64 (P.oK r), .int .i64 (P.oL r), .int .i64 (P.oC r), .slice a5 (P.oB r).length p5] 40)) := (Below.refl _ w4).alloc (Nat.le_refl _) _
    have hb7' := below_then hb4' hbP hb4'.size
    have HX := Lib.hid (HX4.out.below hbP)
    have HY := Lib.hid (HY4.out.below hbP)
    clear HX2 HX3 HX4 HY3 HY4
    have hwp := hbP
    rcases HQQ.out with d2 | d2
    all_goals
      go_wp2
      all_goals
        go_ret
        exact ⟨rfl, hb7'⟩

set_option maxRecDepth 100000 in
set_option maxHeartbeats 1600000 in
theorem one_bg (k1 l1 c1 : Int) (a1 : Option Addr) (n1 m1 : Nat) (b1 : List UInt8) (k2 l2 c2 : Int) (a2 : Option Addr) (n2 m2 : Nat) (b2 : List UInt8) (a9 : Option Addr) (n3 m3 : Nat) (r : List UInt8) (w : World)
    (hr1 : Rd w a1 n1 b1) (hr2 : Rd w a2 n2 b2) (hr3 : Rd w a9 n3 r) (hm3 : n3 ≤ m3) (h1 : n1 ≤ 1000) (h2 : n2 ≤ 1000) (h3 : n3 ≤ 1000) (hg : P.openErr r ≠ 0) (he1 : P.sealErr k1 l1 c1 b1.length = 0) (he2 : P.sealErr k2 l2 c2 b2.length = 0) :
    Calls Try.prog 11 #[.agg #[.int .i64 k1, .int .i64 l1, .int .i64 c1, .slice a1 n1 m1], .agg #[.int .i64 k2, .int .i64 l2, .int .i64 c2, .slice a2 n2 m2], .slice a9 n3 m3] w fun e w' => e = .returned (.bool true) ∧ Below w.heap.size w w' := by
    have HR1 := Lib.hid hr1
    have HR2 := Lib.hid hr2
    have HR3 := Lib.hid hr3
    clear hr1 hr2 hr3
    have t1 : decide (1000 < (n1 : Int)) = false := decide_eq_false (by omega)
    have t2 : decide (1000 < (n2 : Int)) = false := decide_eq_false (by omega)
    have t3 : decide (1000 < (n3 : Int)) = false := decide_eq_false (by omega)
    have d1 : (P.openErr r == 0) = false := by rw [beq_eq_false_iff_ne]; exact hg
    have HE1 := Lib.hid he1
    have HE2 := Lib.hid he2
    have d2 : (P.sealErr k1 l1 c1 b1.length != 0) = false := by rw [bne_eq_false_iff_eq]; exact he1
    have d3 : (P.sealErr k2 l2 c2 b2.length != 0) = false := by rw [bne_eq_false_iff_eq]; exact he2
    clear hg he1 he2
    go_enter Try.func11, Try.ntmps11
    go_wp2_with fail
    have hbA : Below w.heap.size w ((w.alloc (.cells #[.int .i64 k1, .int .i64 l1, .int .i64 c1, .slice a1 n1 m1] 40)).alloc (.cells #[.int .i64 k2, .int .i64 l2, .int .i64 c2, .slice a2 n2 m2] 40)) := ((Below.refl _ w).alloc (Nat.le_refl _) _).alloc (by simp) _
    have hA : ((w.alloc (.cells #[.int .i64 k1, .int .i64 l1, .int .i64 c1, .slice a1 n1 m1] 40)).alloc (.cells #[.int .i64 k2, .int .i64 l2, .int .i64 c2, .slice a2 n2 m2] 40)).heap[w.heap.size]? = _ := alloc_old (alloc_new _ _ _ rfl) _
    have hB : ((w.alloc (.cells #[.int .i64 k1, .int .i64 l1, .int .i64 c1, .slice a1 n1 m1] 40)).alloc (.cells #[.int .i64 k2, .int .i64 l2, .int .i64 c2, .slice a2 n2 m2] 40)).heap[w.heap.size + 1]? = _ := alloc_new _ _ _ (by simp)
    generalize (w.alloc (.cells #[.int .i64 k1, .int .i64 l1, .int .i64 c1, .slice a1 n1 m1] 40)).alloc (.cells #[.int .i64 k2, .int .i64 l2, .int .i64 c2, .slice a2 n2 m2] 40) = w0 at *
    refine (awake6_any _).mono ?_
    rintro e w1 ⟨rfl, hb1⟩
    have hb1' := below_then hbA hb1 hbA.size
    have hA1 := (hb1.block _ (lt_of_block hA)).trans hA
    have hB1 := (hb1.block _ (lt_of_block hB)).trans hB
    have HA1 := Lib.hid hA1
    have HB1 := Lib.hid hB1
    have gA := cell_blk hA1
    have gB := cell_blk hB1
    clear hA hB hA1 hB1 hbA hb1
    go_wp2_with fail
    refine (seal_fun _ _ _ _ _ _ b1 _ (HR1.out.below hb1')).mono ?_
    rintro e w2 ⟨v2, rfl, ho2, hb2⟩
    obtain ⟨a3, p3, hv2, hr3, hp3, -, -⟩ := ho2.form
    subst hv2
    have HX2 := Lib.hid hr3
    have hb2' := below_then hb1' hb2 hb1'.size
    have hA2 := (hb2.block _ (lt_of_block HA1.out)).trans HA1.out
    have hB2 := (hb2.block _ (lt_of_block HB1.out)).trans HB1.out
    have HB2 := Lib.hid hB2
    clear gA gB
    have gA := cell_blk hA2
    have gB := cell_blk hB2
    clear ho2 hr3 hA2 hB2
    go_wp2_with fail
    refine (seal_fun _ _ _ _ _ _ b2 _ (HR2.out.below hb2')).mono ?_
    rintro e w3 ⟨v3, rfl, ho3, hb3⟩
    obtain ⟨a4, p4, hv3, hr4, hp4, -, -⟩ := ho3.form
    subst hv3
    have HY3 := Lib.hid hr4
    have HX3 := Lib.hid (HX2.out.below hb3)
    have hb3' := below_then hb2' hb3 hb2'.size
    clear ho3 hr4 gA gB
    go_wp2_with fail
    refine (open_fun _ _ _ r _ (HR3.out.below hb3') hm3).mono ?_
    rintro e w4 ⟨v4, rfl, ho4, hb4⟩
    obtain ⟨a5, p5, hv4, hr5, -, -, -⟩ := ho4.form
    subst hv4
    have hb4' := below_then hb3' hb4 hb3'.size
    have HX4 := Lib.hid (HX3.out.below hb4)
    have HY4 := Lib.hid (HY3.out.below hb4)
    have HR5 := Lib.hid hr5
    clear ho4 hr5
    have hbP : Below w4.heap.size w4 (w4.alloc (.cells #[.int .i64 (P.oK r), .int .i64 (P.oL r), .int .i64 (P.oC r), .slice a5 (P.oB r).length p5] 40)) := (Below.refl _ w4).alloc (Nat.le_refl _) _
    have hb7' := below_then hb4' hbP hb4'.size
    have HX := Lib.hid (HX4.out.below hbP)
    have HY := Lib.hid (HY4.out.below hbP)
    clear HX2 HX3 HX4 HY3 HY4
    have hwp := hbP
    go_wp2_with fail
    generalize w4.alloc (.cells #[.int .i64 (P.oK r), .int .i64 (P.oL r), .int .i64 (P.oC r), .slice a5 (P.oB r).length p5] 40) = w7 at *
    refine (open_fun _ _ _ _ _ HX.out hp3).mono ?_
    rintro e w8 ⟨v8, rfl, ho8, hb8⟩
    obtain ⟨a8, p8, hv8, hr8, -, -, -⟩ := ho8.form
    subst hv8
    have HQ8 := Lib.hid hr8
    have hb8' := below_then hb7' hb8 hb7'.size
    have HY8 := Lib.hid (HY.out.below hb8)
    have HX8 := Lib.hid (HX.out.below hb8)
    clear ho8 hr8
    go_wp2_with fail
    have hbQ : Below w8.heap.size w8 (w8.alloc (.cells #[.int .i64 (P.oK (P.sealB k1 l1 c1 b1)), .int .i64 (P.oL (P.sealB k1 l1 c1 b1)), .int .i64 (P.oC (P.sealB k1 l1 c1 b1)), .slice a8 (P.oB (P.sealB k1 l1 c1 b1)).length p8] 40)) := (Below.refl _ w8).alloc (Nat.le_refl _) _
    have hQ : (w8.alloc (.cells #[.int .i64 (P.oK (P.sealB k1 l1 c1 b1)), .int .i64 (P.oL (P.sealB k1 l1 c1 b1)), .int .i64 (P.oC (P.sealB k1 l1 c1 b1)), .slice a8 (P.oB (P.sealB k1 l1 c1 b1)).length p8] 40)).heap[w8.heap.size]? = _ := alloc_new _ _ _ rfl
    generalize w8.alloc (.cells #[.int .i64 (P.oK (P.sealB k1 l1 c1 b1)), .int .i64 (P.oL (P.sealB k1 l1 c1 b1)), .int .i64 (P.oC (P.sealB k1 l1 c1 b1)), .slice a8 (P.oB (P.sealB k1 l1 c1 b1)).length p8] 40) = w9 at *
    have hb9' := below_then hb8' hbQ hb8'.size
    have HX9 := Lib.hid (HX8.out.below hbQ)
    have HY9 := Lib.hid (HY8.out.below hbQ)
    have HQ9 := Lib.hid (HQ8.out.below hbQ)
    have HQb := Lib.hid hQ
    clear hQ
    refine (open_fun _ _ _ _ _ HY9.out hp4).mono ?_
    rintro e w10 ⟨v10, rfl, ho10, hb10⟩
    obtain ⟨a10, p10, hv10, hr10, -, -, -⟩ := ho10.form
    subst hv10
    have HR10 := Lib.hid hr10
    have hb10' := below_then hb9' hb10 hb9'.size
    have hQ10 := (hb10.block _ (lt_of_block HQb.out)).trans HQb.out
    have HX10 := Lib.hid (HX9.out.below hb10)
    have HY10 := Lib.hid (HY9.out.below hb10)
    have HQ10 := Lib.hid (HQ9.out.below hb10)
    have HQc := Lib.hid hQ10
    clear ho10 hr10 hQ10 HX8 HX9 HY8 HY9 HQ8 HQ9
    go_wp2
    have hbR : Below w10.heap.size w10 (w10.alloc (.cells #[.int .i64 (P.oK (P.sealB k2 l2 c2 b2)), .int .i64 (P.oL (P.sealB k2 l2 c2 b2)), .int .i64 (P.oC (P.sealB k2 l2 c2 b2)), .slice a10 (P.oB (P.sealB k2 l2 c2 b2)).length p10] 40)) := (Below.refl _ w10).alloc (Nat.le_refl _) _
    have hQ11 : (w10.alloc (.cells #[.int .i64 (P.oK (P.sealB k2 l2 c2 b2)), .int .i64 (P.oL (P.sealB k2 l2 c2 b2)), .int .i64 (P.oC (P.sealB k2 l2 c2 b2)), .slice a10 (P.oB (P.sealB k2 l2 c2 b2)).length p10] 40)).heap[w8.heap.size]? = _ := alloc_old HQc.out _
    have hR11 : (w10.alloc (.cells #[.int .i64 (P.oK (P.sealB k2 l2 c2 b2)), .int .i64 (P.oL (P.sealB k2 l2 c2 b2)), .int .i64 (P.oC (P.sealB k2 l2 c2 b2)), .slice a10 (P.oB (P.sealB k2 l2 c2 b2)).length p10] 40)).heap[w10.heap.size]? = _ := alloc_new _ _ _ rfl
    generalize w10.alloc (.cells #[.int .i64 (P.oK (P.sealB k2 l2 c2 b2)), .int .i64 (P.oL (P.sealB k2 l2 c2 b2)), .int .i64 (P.oC (P.sealB k2 l2 c2 b2)), .slice a10 (P.oB (P.sealB k2 l2 c2 b2)).length p10] 40) = w11 at *
    have hb11' := below_then hb10' hbR hb10'.size
    have HX11 := Lib.hid (HX10.out.below hbR)
    have HY11 := Lib.hid (HY10.out.below hbR)
    have HQ11 := Lib.hid (HQ10.out.below hbR)
    have HR11 := Lib.hid (HR10.out.below hbR)
    have gQ := cell_blk hQ11
    have gR := cell_blk hR11
    have ltQ := lt_of_block hQ11
    have ltR := lt_of_block hR11
    clear hQ11 hR11 HX10 HY10 HQ10 HR10
    have hps := P.page_same HE1.out HE2.out
    generalize P.sealB k1 l1 c1 b1 = X at *
    generalize P.sealB k2 l2 c2 b2 = Y at *
    have HPS := Lib.hid hps
    clear hps
    have kp : Hid (∀ w', Below w11.heap.size w11 w' → w'.cell? ⟨w8.heap.size, 0, none⟩ = some (.int .i64 (P.oK X)) ∧ w'.cell? ⟨w8.heap.size, 1, none⟩ = some (.int .i64 (P.oL X)) ∧ w'.cell? ⟨w8.heap.size, 2, none⟩ = some (.int .i64 (P.oC X)) ∧ w'.cell? ⟨w8.heap.size, 3, none⟩ = some (.slice a8 (P.oB X).length p8) ∧
        w'.cell? ⟨w10.heap.size, 0, none⟩ = some (.int .i64 (P.oK Y)) ∧ w'.cell? ⟨w10.heap.size, 1, none⟩ = some (.int .i64 (P.oL Y)) ∧ w'.cell? ⟨w10.heap.size, 2, none⟩ = some (.int .i64 (P.oC Y)) ∧ w'.cell? ⟨w10.heap.size, 3, none⟩ = some (.slice a10 (P.oB Y).length p10)) := by
      intro w' h
      exact ⟨(h.cell (p := ⟨w8.heap.size, 0, none⟩) ltQ).trans (gQ 0), (h.cell (p := ⟨w8.heap.size, 1, none⟩) ltQ).trans (gQ 1), (h.cell (p := ⟨w8.heap.size, 2, none⟩) ltQ).trans (gQ 2), (h.cell (p := ⟨w8.heap.size, 3, none⟩) ltQ).trans (gQ 3),
        (h.cell (p := ⟨w10.heap.size, 0, none⟩) ltR).trans (gR 0), (h.cell (p := ⟨w10.heap.size, 1, none⟩) ltR).trans (gR 1), (h.cell (p := ⟨w10.heap.size, 2, none⟩) ltR).trans (gR 2), (h.cell (p := ⟨w10.heap.size, 3, none⟩) ltR).trans (gR 3)⟩
    go_region_held3 (fun w' => w'.cell? ⟨w8.heap.size, 0, none⟩ = some (.int .i64 (P.oK X)) ∧ w'.cell? ⟨w8.heap.size, 1, none⟩ = some (.int .i64 (P.oL X)) ∧ w'.cell? ⟨w8.heap.size, 2, none⟩ = some (.int .i64 (P.oC X)) ∧ w'.cell? ⟨w8.heap.size, 3, none⟩ = some (.slice a8 (P.oB X).length p8) ∧
        w'.cell? ⟨w10.heap.size, 0, none⟩ = some (.int .i64 (P.oK Y)) ∧ w'.cell? ⟨w10.heap.size, 1, none⟩ = some (.int .i64 (P.oL Y)) ∧ w'.cell? ⟨w10.heap.size, 2, none⟩ = some (.int .i64 (P.oC Y)) ∧ w'.cell? ⟨w10.heap.size, 3, none⟩ = some (.slice a10 (P.oB Y).length p10))
      (first
        | go_keep
        | exact kp.out _ (below_of_drew hb12)
        | exact kp.out _ (below_then (below_of_drew hb12) hb13 hb12.size))
      (first
        | (go_at_call 20; refine (same_b _ _ _ _ _ _ X Y _ (Rd.drew HX11.out) (Rd.drew HY11.out)).mono ?_; rintro e w12 ⟨rfl, hb12⟩)
        | (go_at_call 26; refine (psame_any _ _ _ _ _ _ _ _ _ _ _ _ (P.oB X) (P.oB Y) _ (HQ11.out.below (below_of_drew hb12)) (HR11.out.below (below_of_drew hb12))).mono ?_; rintro e w13 ⟨rfl, hb13⟩))
    have hd : (decide (X = Y) == (decide (P.oK X = P.oK Y) && (decide (P.oL X = P.oL Y) && (decide (P.oC X = P.oC Y) && decide (P.oB X = P.oB Y))))) = true := by
      rw [beq_iff_eq, Bool.eq_iff_iff]
      simpa using HPS.out
    rw [hd]
    clear hd
    go_wp2
    go_ret
    exact ⟨rfl, below_then (below_then hb11' (below_of_drew hb12) hb11'.size) hb13 (Nat.le_trans hb11'.size hb12.size)⟩

set_option maxRecDepth 100000 in
set_option maxHeartbeats 1600000 in
theorem one_gb (k1 l1 c1 : Int) (a1 : Option Addr) (n1 m1 : Nat) (b1 : List UInt8) (k2 l2 c2 : Int) (a2 : Option Addr) (n2 m2 : Nat) (b2 : List UInt8) (a9 : Option Addr) (n3 m3 : Nat) (r : List UInt8) (w : World)
    (hr1 : Rd w a1 n1 b1) (hr2 : Rd w a2 n2 b2) (hr3 : Rd w a9 n3 r) (hm3 : n3 ≤ m3) (h1 : n1 ≤ 1000) (h2 : n2 ≤ 1000) (h3 : n3 ≤ 1000) (hg : P.openErr r = 0) (he : P.sealErr k1 l1 c1 b1.length ≠ 0 ∨ P.sealErr k2 l2 c2 b2.length ≠ 0) :
    Calls Try.prog 11 #[.agg #[.int .i64 k1, .int .i64 l1, .int .i64 c1, .slice a1 n1 m1], .agg #[.int .i64 k2, .int .i64 l2, .int .i64 c2, .slice a2 n2 m2], .slice a9 n3 m3] w fun e w' => e = .returned (.bool true) ∧ Below w.heap.size w w' := by
    have HR1 := Lib.hid hr1
    have HR2 := Lib.hid hr2
    have HR3 := Lib.hid hr3
    clear hr1 hr2 hr3
    have t1 : decide (1000 < (n1 : Int)) = false := decide_eq_false (by omega)
    have t2 : decide (1000 < (n2 : Int)) = false := decide_eq_false (by omega)
    have t3 : decide (1000 < (n3 : Int)) = false := decide_eq_false (by omega)
    have HG := Lib.hid hg
    have d1 : (P.openErr r == 0) = true := by rw [beq_iff_eq]; exact hg
    have hq : (P.sealErr k1 l1 c1 b1.length != 0) = true ∨ (P.sealErr k2 l2 c2 b2.length != 0) = true := by
      rw [bne_iff_ne, bne_iff_ne]; exact he
    have HQQ := Lib.hid hq
    clear hg he hq
    go_enter Try.func11, Try.ntmps11
    go_wp2_with fail
    have hbA : Below w.heap.size w ((w.alloc (.cells #[.int .i64 k1, .int .i64 l1, .int .i64 c1, .slice a1 n1 m1] 40)).alloc (.cells #[.int .i64 k2, .int .i64 l2, .int .i64 c2, .slice a2 n2 m2] 40)) := ((Below.refl _ w).alloc (Nat.le_refl _) _).alloc (by simp) _
    have hA : ((w.alloc (.cells #[.int .i64 k1, .int .i64 l1, .int .i64 c1, .slice a1 n1 m1] 40)).alloc (.cells #[.int .i64 k2, .int .i64 l2, .int .i64 c2, .slice a2 n2 m2] 40)).heap[w.heap.size]? = _ := alloc_old (alloc_new _ _ _ rfl) _
    have hB : ((w.alloc (.cells #[.int .i64 k1, .int .i64 l1, .int .i64 c1, .slice a1 n1 m1] 40)).alloc (.cells #[.int .i64 k2, .int .i64 l2, .int .i64 c2, .slice a2 n2 m2] 40)).heap[w.heap.size + 1]? = _ := alloc_new _ _ _ (by simp)
    generalize (w.alloc (.cells #[.int .i64 k1, .int .i64 l1, .int .i64 c1, .slice a1 n1 m1] 40)).alloc (.cells #[.int .i64 k2, .int .i64 l2, .int .i64 c2, .slice a2 n2 m2] 40) = w0 at *
    refine (awake6_any _).mono ?_
    rintro e w1 ⟨rfl, hb1⟩
    have hb1' := below_then hbA hb1 hbA.size
    have hA1 := (hb1.block _ (lt_of_block hA)).trans hA
    have hB1 := (hb1.block _ (lt_of_block hB)).trans hB
    have HA1 := Lib.hid hA1
    have HB1 := Lib.hid hB1
    have gA := cell_blk hA1
    have gB := cell_blk hB1
    clear hA hB hA1 hB1 hbA hb1
    go_wp2_with fail
    refine (seal_fun _ _ _ _ _ _ b1 _ (HR1.out.below hb1')).mono ?_
    rintro e w2 ⟨v2, rfl, ho2, hb2⟩
    obtain ⟨a3, p3, hv2, hr3, hp3, -, -⟩ := ho2.form
    subst hv2
    have HX2 := Lib.hid hr3
    have hb2' := below_then hb1' hb2 hb1'.size
    have hA2 := (hb2.block _ (lt_of_block HA1.out)).trans HA1.out
    have hB2 := (hb2.block _ (lt_of_block HB1.out)).trans HB1.out
    have HB2 := Lib.hid hB2
    clear gA gB
    have gA := cell_blk hA2
    have gB := cell_blk hB2
    clear ho2 hr3 hA2 hB2
    go_wp2_with fail
    refine (seal_fun _ _ _ _ _ _ b2 _ (HR2.out.below hb2')).mono ?_
    rintro e w3 ⟨v3, rfl, ho3, hb3⟩
    obtain ⟨a4, p4, hv3, hr4, hp4, -, -⟩ := ho3.form
    subst hv3
    have HY3 := Lib.hid hr4
    have HX3 := Lib.hid (HX2.out.below hb3)
    have hb3' := below_then hb2' hb3 hb2'.size
    clear ho3 hr4 gA gB
    go_wp2_with fail
    refine (open_fun _ _ _ r _ (HR3.out.below hb3') hm3).mono ?_
    rintro e w4 ⟨v4, rfl, ho4, hb4⟩
    obtain ⟨a5, p5, hv4, hr5, -, -, -⟩ := ho4.form
    subst hv4
    have hb4' := below_then hb3' hb4 hb3'.size
    have HX4 := Lib.hid (HX3.out.below hb4)
    have HY4 := Lib.hid (HY3.out.below hb4)
    have HR5 := Lib.hid hr5
    clear ho4 hr5
    go_wp2_with fail
    have hbP : Below w4.heap.size w4 (w4.alloc (.cells #[.int .i64 (P.oK r), .int .i64 (P.oL r), .int .i64 (P.oC r), .slice a5 (P.oB r).length p5] 40)) := (Below.refl _ w4).alloc (Nat.le_refl _) _
    generalize w4.alloc (.cells #[.int .i64 (P.oK r), .int .i64 (P.oL r), .int .i64 (P.oC r), .slice a5 (P.oB r).length p5] 40) = w5 at *
    have hb5' := below_then hb4' hbP hb4'.size
    refine (seal_fun _ _ _ _ _ _ (P.oB r) _ (HR5.out.below hbP)).mono ?_
    rintro e w6 ⟨v6, rfl, ho6, hb6⟩
    rw [(P.seal_open r HG.out).1]
    rw [(P.seal_open r HG.out).2] at ho6
    obtain ⟨a6, p6, hv6, hr6, -, -, -⟩ := ho6.form
    subst hv6
    have hb6' := below_then hb5' hb6 hb5'.size
    have HZ := Lib.hid hr6
    have HX6 := Lib.hid ((HX4.out.below hbP).below hb6)
    have HY6 := Lib.hid ((HY4.out.below hbP).below hb6)
    clear ho6 hr6
    go_wp2_with fail
    refine (same_b _ _ _ _ _ _ r r _ HZ.out (HR3.out.below hb6')).mono ?_
    rintro e w7 ⟨rfl, hb7⟩
    rw [show decide (r = r) = true by simp]
    have hb7' := below_then hb6' hb7 hb6'.size
    have HX := Lib.hid (HX6.out.below hb7)
    have HY := Lib.hid (HY6.out.below hb7)
    clear HX2 HX3 HX4 HX6 HY3 HY4 HY6
    rcases HQQ.out with d2 | d2
    all_goals
      go_wp2
      all_goals
        go_ret
        exact ⟨rfl, hb7'⟩

set_option maxRecDepth 100000 in
set_option maxHeartbeats 1600000 in
theorem one_gg (k1 l1 c1 : Int) (a1 : Option Addr) (n1 m1 : Nat) (b1 : List UInt8) (k2 l2 c2 : Int) (a2 : Option Addr) (n2 m2 : Nat) (b2 : List UInt8) (a9 : Option Addr) (n3 m3 : Nat) (r : List UInt8) (w : World)
    (hr1 : Rd w a1 n1 b1) (hr2 : Rd w a2 n2 b2) (hr3 : Rd w a9 n3 r) (hm3 : n3 ≤ m3) (h1 : n1 ≤ 1000) (h2 : n2 ≤ 1000) (h3 : n3 ≤ 1000) (hg : P.openErr r = 0) (he1 : P.sealErr k1 l1 c1 b1.length = 0) (he2 : P.sealErr k2 l2 c2 b2.length = 0) :
    Calls Try.prog 11 #[.agg #[.int .i64 k1, .int .i64 l1, .int .i64 c1, .slice a1 n1 m1], .agg #[.int .i64 k2, .int .i64 l2, .int .i64 c2, .slice a2 n2 m2], .slice a9 n3 m3] w fun e w' => e = .returned (.bool true) ∧ Below w.heap.size w w' := by
    have HR1 := Lib.hid hr1
    have HR2 := Lib.hid hr2
    have HR3 := Lib.hid hr3
    clear hr1 hr2 hr3
    have t1 : decide (1000 < (n1 : Int)) = false := decide_eq_false (by omega)
    have t2 : decide (1000 < (n2 : Int)) = false := decide_eq_false (by omega)
    have t3 : decide (1000 < (n3 : Int)) = false := decide_eq_false (by omega)
    have HG := Lib.hid hg
    have d1 : (P.openErr r == 0) = true := by rw [beq_iff_eq]; exact hg
    have HE1 := Lib.hid he1
    have HE2 := Lib.hid he2
    have d2 : (P.sealErr k1 l1 c1 b1.length != 0) = false := by rw [bne_eq_false_iff_eq]; exact he1
    have d3 : (P.sealErr k2 l2 c2 b2.length != 0) = false := by rw [bne_eq_false_iff_eq]; exact he2
    clear hg he1 he2
    go_enter Try.func11, Try.ntmps11
    go_wp2_with fail
    have hbA : Below w.heap.size w ((w.alloc (.cells #[.int .i64 k1, .int .i64 l1, .int .i64 c1, .slice a1 n1 m1] 40)).alloc (.cells #[.int .i64 k2, .int .i64 l2, .int .i64 c2, .slice a2 n2 m2] 40)) := ((Below.refl _ w).alloc (Nat.le_refl _) _).alloc (by simp) _
    have hA : ((w.alloc (.cells #[.int .i64 k1, .int .i64 l1, .int .i64 c1, .slice a1 n1 m1] 40)).alloc (.cells #[.int .i64 k2, .int .i64 l2, .int .i64 c2, .slice a2 n2 m2] 40)).heap[w.heap.size]? = _ := alloc_old (alloc_new _ _ _ rfl) _
    have hB : ((w.alloc (.cells #[.int .i64 k1, .int .i64 l1, .int .i64 c1, .slice a1 n1 m1] 40)).alloc (.cells #[.int .i64 k2, .int .i64 l2, .int .i64 c2, .slice a2 n2 m2] 40)).heap[w.heap.size + 1]? = _ := alloc_new _ _ _ (by simp)
    generalize (w.alloc (.cells #[.int .i64 k1, .int .i64 l1, .int .i64 c1, .slice a1 n1 m1] 40)).alloc (.cells #[.int .i64 k2, .int .i64 l2, .int .i64 c2, .slice a2 n2 m2] 40) = w0 at *
    refine (awake6_any _).mono ?_
    rintro e w1 ⟨rfl, hb1⟩
    have hb1' := below_then hbA hb1 hbA.size
    have hA1 := (hb1.block _ (lt_of_block hA)).trans hA
    have hB1 := (hb1.block _ (lt_of_block hB)).trans hB
    have HA1 := Lib.hid hA1
    have HB1 := Lib.hid hB1
    have gA := cell_blk hA1
    have gB := cell_blk hB1
    clear hA hB hA1 hB1 hbA hb1
    go_wp2_with fail
    refine (seal_fun _ _ _ _ _ _ b1 _ (HR1.out.below hb1')).mono ?_
    rintro e w2 ⟨v2, rfl, ho2, hb2⟩
    obtain ⟨a3, p3, hv2, hr3, hp3, -, -⟩ := ho2.form
    subst hv2
    have HX2 := Lib.hid hr3
    have hb2' := below_then hb1' hb2 hb1'.size
    have hA2 := (hb2.block _ (lt_of_block HA1.out)).trans HA1.out
    have hB2 := (hb2.block _ (lt_of_block HB1.out)).trans HB1.out
    have HB2 := Lib.hid hB2
    clear gA gB
    have gA := cell_blk hA2
    have gB := cell_blk hB2
    clear ho2 hr3 hA2 hB2
    go_wp2_with fail
    refine (seal_fun _ _ _ _ _ _ b2 _ (HR2.out.below hb2')).mono ?_
    rintro e w3 ⟨v3, rfl, ho3, hb3⟩
    obtain ⟨a4, p4, hv3, hr4, hp4, -, -⟩ := ho3.form
    subst hv3
    have HY3 := Lib.hid hr4
    have HX3 := Lib.hid (HX2.out.below hb3)
    have hb3' := below_then hb2' hb3 hb2'.size
    clear ho3 hr4 gA gB
    go_wp2_with fail
    refine (open_fun _ _ _ r _ (HR3.out.below hb3') hm3).mono ?_
    rintro e w4 ⟨v4, rfl, ho4, hb4⟩
    obtain ⟨a5, p5, hv4, hr5, -, -, -⟩ := ho4.form
    subst hv4
    have hb4' := below_then hb3' hb4 hb3'.size
    have HX4 := Lib.hid (HX3.out.below hb4)
    have HY4 := Lib.hid (HY3.out.below hb4)
    have HR5 := Lib.hid hr5
    clear ho4 hr5
    go_wp2_with fail
    have hbP : Below w4.heap.size w4 (w4.alloc (.cells #[.int .i64 (P.oK r), .int .i64 (P.oL r), .int .i64 (P.oC r), .slice a5 (P.oB r).length p5] 40)) := (Below.refl _ w4).alloc (Nat.le_refl _) _
    generalize w4.alloc (.cells #[.int .i64 (P.oK r), .int .i64 (P.oL r), .int .i64 (P.oC r), .slice a5 (P.oB r).length p5] 40) = w5 at *
    have hb5' := below_then hb4' hbP hb4'.size
    refine (seal_fun _ _ _ _ _ _ (P.oB r) _ (HR5.out.below hbP)).mono ?_
    rintro e w6 ⟨v6, rfl, ho6, hb6⟩
    rw [(P.seal_open r HG.out).1]
    rw [(P.seal_open r HG.out).2] at ho6
    obtain ⟨a6, p6, hv6, hr6, -, -, -⟩ := ho6.form
    subst hv6
    have hb6' := below_then hb5' hb6 hb5'.size
    have HZ := Lib.hid hr6
    have HX6 := Lib.hid ((HX4.out.below hbP).below hb6)
    have HY6 := Lib.hid ((HY4.out.below hbP).below hb6)
    clear ho6 hr6
    go_wp2_with fail
    refine (same_b _ _ _ _ _ _ r r _ HZ.out (HR3.out.below hb6')).mono ?_
    rintro e w7 ⟨rfl, hb7⟩
    rw [show decide (r = r) = true by simp]
    have hb7' := below_then hb6' hb7 hb6'.size
    have HX := Lib.hid (HX6.out.below hb7)
    have HY := Lib.hid (HY6.out.below hb7)
    clear HX2 HX3 HX4 HX6 HY3 HY4 HY6
    go_wp2_with fail
    refine (open_fun _ _ _ _ _ HX.out hp3).mono ?_
    rintro e w8 ⟨v8, rfl, ho8, hb8⟩
    obtain ⟨a8, p8, hv8, hr8, -, -, -⟩ := ho8.form
    subst hv8
    have HQ8 := Lib.hid hr8
    have hb8' := below_then hb7' hb8 hb7'.size
    have HY8 := Lib.hid (HY.out.below hb8)
    have HX8 := Lib.hid (HX.out.below hb8)
    clear ho8 hr8
    go_wp2_with fail
    have hbQ : Below w8.heap.size w8 (w8.alloc (.cells #[.int .i64 (P.oK (P.sealB k1 l1 c1 b1)), .int .i64 (P.oL (P.sealB k1 l1 c1 b1)), .int .i64 (P.oC (P.sealB k1 l1 c1 b1)), .slice a8 (P.oB (P.sealB k1 l1 c1 b1)).length p8] 40)) := (Below.refl _ w8).alloc (Nat.le_refl _) _
    have hQ : (w8.alloc (.cells #[.int .i64 (P.oK (P.sealB k1 l1 c1 b1)), .int .i64 (P.oL (P.sealB k1 l1 c1 b1)), .int .i64 (P.oC (P.sealB k1 l1 c1 b1)), .slice a8 (P.oB (P.sealB k1 l1 c1 b1)).length p8] 40)).heap[w8.heap.size]? = _ := alloc_new _ _ _ rfl
    generalize w8.alloc (.cells #[.int .i64 (P.oK (P.sealB k1 l1 c1 b1)), .int .i64 (P.oL (P.sealB k1 l1 c1 b1)), .int .i64 (P.oC (P.sealB k1 l1 c1 b1)), .slice a8 (P.oB (P.sealB k1 l1 c1 b1)).length p8] 40) = w9 at *
    have hb9' := below_then hb8' hbQ hb8'.size
    have HX9 := Lib.hid (HX8.out.below hbQ)
    have HY9 := Lib.hid (HY8.out.below hbQ)
    have HQ9 := Lib.hid (HQ8.out.below hbQ)
    have HQb := Lib.hid hQ
    clear hQ
    refine (open_fun _ _ _ _ _ HY9.out hp4).mono ?_
    rintro e w10 ⟨v10, rfl, ho10, hb10⟩
    obtain ⟨a10, p10, hv10, hr10, -, -, -⟩ := ho10.form
    subst hv10
    have HR10 := Lib.hid hr10
    have hb10' := below_then hb9' hb10 hb9'.size
    have hQ10 := (hb10.block _ (lt_of_block HQb.out)).trans HQb.out
    have HX10 := Lib.hid (HX9.out.below hb10)
    have HY10 := Lib.hid (HY9.out.below hb10)
    have HQ10 := Lib.hid (HQ9.out.below hb10)
    have HQc := Lib.hid hQ10
    clear ho10 hr10 hQ10 HX8 HX9 HY8 HY9 HQ8 HQ9
    go_wp2
    have hbR : Below w10.heap.size w10 (w10.alloc (.cells #[.int .i64 (P.oK (P.sealB k2 l2 c2 b2)), .int .i64 (P.oL (P.sealB k2 l2 c2 b2)), .int .i64 (P.oC (P.sealB k2 l2 c2 b2)), .slice a10 (P.oB (P.sealB k2 l2 c2 b2)).length p10] 40)) := (Below.refl _ w10).alloc (Nat.le_refl _) _
    have hQ11 : (w10.alloc (.cells #[.int .i64 (P.oK (P.sealB k2 l2 c2 b2)), .int .i64 (P.oL (P.sealB k2 l2 c2 b2)), .int .i64 (P.oC (P.sealB k2 l2 c2 b2)), .slice a10 (P.oB (P.sealB k2 l2 c2 b2)).length p10] 40)).heap[w8.heap.size]? = _ := alloc_old HQc.out _
    have hR11 : (w10.alloc (.cells #[.int .i64 (P.oK (P.sealB k2 l2 c2 b2)), .int .i64 (P.oL (P.sealB k2 l2 c2 b2)), .int .i64 (P.oC (P.sealB k2 l2 c2 b2)), .slice a10 (P.oB (P.sealB k2 l2 c2 b2)).length p10] 40)).heap[w10.heap.size]? = _ := alloc_new _ _ _ rfl
    generalize w10.alloc (.cells #[.int .i64 (P.oK (P.sealB k2 l2 c2 b2)), .int .i64 (P.oL (P.sealB k2 l2 c2 b2)), .int .i64 (P.oC (P.sealB k2 l2 c2 b2)), .slice a10 (P.oB (P.sealB k2 l2 c2 b2)).length p10] 40) = w11 at *
    have hb11' := below_then hb10' hbR hb10'.size
    have HX11 := Lib.hid (HX10.out.below hbR)
    have HY11 := Lib.hid (HY10.out.below hbR)
    have HQ11 := Lib.hid (HQ10.out.below hbR)
    have HR11 := Lib.hid (HR10.out.below hbR)
    have gQ := cell_blk hQ11
    have gR := cell_blk hR11
    have ltQ := lt_of_block hQ11
    have ltR := lt_of_block hR11
    clear hQ11 hR11 HX10 HY10 HQ10 HR10
    have hps := P.page_same HE1.out HE2.out
    generalize P.sealB k1 l1 c1 b1 = X at *
    generalize P.sealB k2 l2 c2 b2 = Y at *
    have HPS := Lib.hid hps
    clear hps
    have kp : Hid (∀ w', Below w11.heap.size w11 w' → w'.cell? ⟨w8.heap.size, 0, none⟩ = some (.int .i64 (P.oK X)) ∧ w'.cell? ⟨w8.heap.size, 1, none⟩ = some (.int .i64 (P.oL X)) ∧ w'.cell? ⟨w8.heap.size, 2, none⟩ = some (.int .i64 (P.oC X)) ∧ w'.cell? ⟨w8.heap.size, 3, none⟩ = some (.slice a8 (P.oB X).length p8) ∧
        w'.cell? ⟨w10.heap.size, 0, none⟩ = some (.int .i64 (P.oK Y)) ∧ w'.cell? ⟨w10.heap.size, 1, none⟩ = some (.int .i64 (P.oL Y)) ∧ w'.cell? ⟨w10.heap.size, 2, none⟩ = some (.int .i64 (P.oC Y)) ∧ w'.cell? ⟨w10.heap.size, 3, none⟩ = some (.slice a10 (P.oB Y).length p10)) := by
      intro w' h
      exact ⟨(h.cell (p := ⟨w8.heap.size, 0, none⟩) ltQ).trans (gQ 0), (h.cell (p := ⟨w8.heap.size, 1, none⟩) ltQ).trans (gQ 1), (h.cell (p := ⟨w8.heap.size, 2, none⟩) ltQ).trans (gQ 2), (h.cell (p := ⟨w8.heap.size, 3, none⟩) ltQ).trans (gQ 3),
        (h.cell (p := ⟨w10.heap.size, 0, none⟩) ltR).trans (gR 0), (h.cell (p := ⟨w10.heap.size, 1, none⟩) ltR).trans (gR 1), (h.cell (p := ⟨w10.heap.size, 2, none⟩) ltR).trans (gR 2), (h.cell (p := ⟨w10.heap.size, 3, none⟩) ltR).trans (gR 3)⟩
    go_region_held3 (fun w' => w'.cell? ⟨w8.heap.size, 0, none⟩ = some (.int .i64 (P.oK X)) ∧ w'.cell? ⟨w8.heap.size, 1, none⟩ = some (.int .i64 (P.oL X)) ∧ w'.cell? ⟨w8.heap.size, 2, none⟩ = some (.int .i64 (P.oC X)) ∧ w'.cell? ⟨w8.heap.size, 3, none⟩ = some (.slice a8 (P.oB X).length p8) ∧
        w'.cell? ⟨w10.heap.size, 0, none⟩ = some (.int .i64 (P.oK Y)) ∧ w'.cell? ⟨w10.heap.size, 1, none⟩ = some (.int .i64 (P.oL Y)) ∧ w'.cell? ⟨w10.heap.size, 2, none⟩ = some (.int .i64 (P.oC Y)) ∧ w'.cell? ⟨w10.heap.size, 3, none⟩ = some (.slice a10 (P.oB Y).length p10))
      (first
        | go_keep
        | exact kp.out _ (below_of_drew hb12)
        | exact kp.out _ (below_then (below_of_drew hb12) hb13 hb12.size))
      (first
        | (go_at_call 20; refine (same_b _ _ _ _ _ _ X Y _ (Rd.drew HX11.out) (Rd.drew HY11.out)).mono ?_; rintro e w12 ⟨rfl, hb12⟩)
        | (go_at_call 26; refine (psame_any _ _ _ _ _ _ _ _ _ _ _ _ (P.oB X) (P.oB Y) _ (HQ11.out.below (below_of_drew hb12)) (HR11.out.below (below_of_drew hb12))).mono ?_; rintro e w13 ⟨rfl, hb13⟩))
    have hd : (decide (X = Y) == (decide (P.oK X = P.oK Y) && (decide (P.oL X = P.oL Y) && (decide (P.oC X = P.oC Y) && decide (P.oB X = P.oB Y))))) = true := by
      rw [beq_iff_eq, Bool.eq_iff_iff]
      simpa using HPS.out
    rw [hd]
    clear hd
    go_wp2
    go_ret
    exact ⟨rfl, below_then (below_then hb11' (below_of_drew hb12) hb11'.size) hb13 (Nat.le_trans hb11'.size hb12.size)⟩

theorem pageOne_walk (k1 l1 c1 : Int) (a1 : Option Addr) (n1 m1 : Nat) (b1 : List UInt8) (k2 l2 c2 : Int) (a2 : Option Addr) (n2 m2 : Nat) (b2 : List UInt8) (a9 : Option Addr) (n3 m3 : Nat) (r : List UInt8) (w : World)
    (_1 : -9223372036854775808 ≤ k1 ∧ k1 ≤ 9223372036854775807) (_2 : -9223372036854775808 ≤ l1 ∧ l1 ≤ 9223372036854775807) (_3 : -9223372036854775808 ≤ c1 ∧ c1 ≤ 9223372036854775807)
    (hr1 : Rd w a1 n1 b1) (_hm1 : n1 ≤ m1)
    (_4 : -9223372036854775808 ≤ k2 ∧ k2 ≤ 9223372036854775807) (_5 : -9223372036854775808 ≤ l2 ∧ l2 ≤ 9223372036854775807) (_6 : -9223372036854775808 ≤ c2 ∧ c2 ≤ 9223372036854775807)
    (hr2 : Rd w a2 n2 b2) (_hm2 : n2 ≤ m2) (hr3 : Rd w a9 n3 r) (hm3 : n3 ≤ m3) :
    Calls Try.prog 11 #[.agg #[.int .i64 k1, .int .i64 l1, .int .i64 c1, .slice a1 n1 m1], .agg #[.int .i64 k2, .int .i64 l2, .int .i64 c2, .slice a2 n2 m2], .slice a9 n3 m3] w fun e w' => e = .returned (.bool true) ∧ Below w.heap.size w w' := by
  by_cases hg : n1 ≤ 1000 ∧ n2 ≤ 1000 ∧ n3 ≤ 1000
  · obtain ⟨h1, h2, h3⟩ := hg
    by_cases ho : P.openErr r = 0
    · by_cases he : P.sealErr k1 l1 c1 b1.length = 0 ∧ P.sealErr k2 l2 c2 b2.length = 0
      · exact one_gg k1 l1 c1 a1 n1 m1 b1 k2 l2 c2 a2 n2 m2 b2 a9 n3 m3 r w hr1 hr2 hr3 hm3 h1 h2 h3 ho he.1 he.2
      · exact one_gb k1 l1 c1 a1 n1 m1 b1 k2 l2 c2 a2 n2 m2 b2 a9 n3 m3 r w hr1 hr2 hr3 hm3 h1 h2 h3 ho (by omega)
    · by_cases he : P.sealErr k1 l1 c1 b1.length = 0 ∧ P.sealErr k2 l2 c2 b2.length = 0
      · exact one_bg k1 l1 c1 a1 n1 m1 b1 k2 l2 c2 a2 n2 m2 b2 a9 n3 m3 r w hr1 hr2 hr3 hm3 h1 h2 h3 ho he.1 he.2
      · exact one_bb k1 l1 c1 a1 n1 m1 b1 k2 l2 c2 a2 n2 m2 b2 a9 n3 m3 r w hr1 hr2 hr3 hm3 h1 h2 h3 ho (by omega)
  · exact one_long k1 l1 c1 a1 n1 m1 b1 k2 l2 c2 a2 n2 m2 b2 a9 n3 m3 r w hr1 hr2 hr3 hm3 (by omega)
end Go.Proofs.Ytjhiiikijpalhaa
