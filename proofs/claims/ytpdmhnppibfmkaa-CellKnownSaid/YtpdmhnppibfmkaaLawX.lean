/- The walks of the laws CellTexts, CellKnown. Printed by gen_lawx.py. -/
import Derived.Test.YtpdmhnppibfmkaaLawV0
import Derived.Test.YtpdmhnppibfmkaaClF
import Derived.Test.YtpdmhnppibfmkaaClT
import Derived.Test.YtpdmhnppibfmkaaSame
namespace Go.Proofs.Ytpdmhnppibfmkaa
set_option linter.unusedVariables false
set_option linter.unusedSimpArgs false
open Go.RowKit

def no21 : Array Value := (qCs (List.replicate 21 ⟨0, 0, 0, 0⟩)).toArray
theorem le_nil : P.leafErr [] = 1 := by unfold P.leafErr; rw [if_neg (by simp)]
theorem lb_nil : P.leafB [] = [] := by unfold P.leafB; rw [le_nil, if_neg (by omega)]
theorem le_21 : P.leafErr (List.replicate 21 ⟨0, 0, 0, 0⟩) = 1 := by unfold P.leafErr; rw [if_neg (by simp)]
theorem lb_21 : P.leafB (List.replicate 21 ⟨0, 0, 0, 0⟩) = [] := by unfold P.leafB; rw [le_21, if_neg (by omega)]
theorem te_nil : P.txtErr [] = 1 := by unfold P.txtErr; rw [if_neg (by simp)]
theorem tb_nil : P.txtB [] = [] := by unfold P.txtB; rw [te_nil, if_neg (by omega)]
theorem le_one : P.leafErr [⟨5, 0, 3, 0⟩] = 0 := by unfold P.leafErr; rw [if_pos (by simp [P.Q.mayP])]
set_option maxRecDepth 100000 in
set_option maxHeartbeats 1600000 in
theorem ctexts_long (a0 : Option Addr) (n0 c0 : Nat) (t : List UInt8) (a1 : Option Addr) (n1 c1 : Nat) (b : List UInt8) (w : World) (hr0 : Rd w a0 n0 t) (hc0 : n0 ≤ c0) (hr1 : Rd w a1 n1 b) (hc1 : n1 ≤ c1) (hl : 2000 < n0 ∨ 2000 < n1) : Calls Try.prog 16 #[.slice a0 n0 c0, .slice a1 n1 c1] w fun e w' => e = .returned (.bool true) ∧ Below w.heap.size w w' := by
  clear hr0 hr1
  go_enter Try.func16, Try.ntmps16
  go_wp2_with fail
  refine (awake8_any _).mono ?_
  rintro e w1 ⟨rfl, hb⟩
  go_wp2
  all_goals
    first
      | (exfalso; omega)
      | (go_ret; exact ⟨rfl, hb⟩)
      | skip
set_option maxRecDepth 100000 in
set_option maxHeartbeats 3200000 in
theorem ctexts_g_p (a0 : Option Addr) (n0 c0 : Nat) (t : List UInt8) (a1 : Option Addr) (n1 c1 : Nat) (b : List UInt8) (w : World) (hr0 : Rd w a0 n0 t) (hc0 : n0 ≤ c0) (hr1 : Rd w a1 n1 b) (hc1 : n1 ≤ c1) (hl0 : n0 ≤ 2000) (hl1 : n1 ≤ 2000) (hE : P.txtErr t = 0) (hp : P.pcErr b = 0) : Calls Try.prog 16 #[.slice a0 n0 c0, .slice a1 n1 c1] w fun e w' => e = .returned (.bool true) ∧ Below w.heap.size w w' := by
  have h2a : decide (2000 < (n0 : Int)) = false := decide_eq_false (by omega)
  have h2b : decide (2000 < (n1 : Int)) = false := decide_eq_false (by omega)
  have HBY := Lib.hid (fun w (h : Rd w a0 n0 t) => bytes_fun a0 n0 c0 t w h)
  have HRB := Lib.hid (fun w (h : Rd w a0 n0 t) => rbytes_fun a0 n0 c0 t w h)
  have HTX := Lib.hid (fun a n c w (h : Rd w a n (P.txtB t)) (hc : n ≤ c) => text_fun a n c (P.txtB t) w h hc)
  have HPC := Lib.hid (fun w (h : Rd w a1 n1 b) => pieces_fun a1 n1 c1 b w h hc1)
  have HKD := Lib.hid (fun w (h : Rd w a1 n1 b) => kids_fun a1 n1 c1 b w h hc1)
  have HTB := Lib.hid (fun w (h : Rd w a1 n1 b) => text_fun a1 n1 c1 b w h hc1)
  have HR0 := Lib.hid hr0
  have HR1 := Lib.hid hr1
  have hbl : b.length = n1 := hr1.1
  obtain ⟨f1, f2⟩ := P.txt_back t hE
  have HF1 := Lib.hid f1
  have HF2 := Lib.hid f2
  have hE0 : (P.txtErr t == 0) = true := by simp [hE]
  obtain ⟨E, hEE⟩ : ∃ E, E = P.txtErr t := ⟨_, rfl⟩
  obtain ⟨K, hKK⟩ : ∃ K, K = P.txtB t := ⟨_, rfl⟩
  rw [← hEE] at HBY HRB hE0
  rw [← hKK] at HBY HRB HTX
  rw [← hKK] at HF1 HF2
  obtain ⟨g1, g2⟩ := P.leaf_again b hp
  have HAG := Lib.hid (fun a n c w (h : RQ w a n (P.pcL b)) => leaf_fun a n c (P.pcL b) w h)
  rw [g1, g2] at HAG
  rw [hp] at HPC
  have HBL := Lib.hid hbl
  clear hr0 hr1 hE hEE hKK hbl hp g1 g2 f1 f2
  go_enter Try.func16, Try.ntmps16
  go_wp2_with fail
  refine (awake8_any _).mono ?_
  rintro e w1 ⟨rfl, hb1⟩
  go_wp2_with fail
  refine (HBY.out _ (HR0.out.below hb1)).mono ?_
  rintro e w2 ⟨v2, rfl, ho2, hb2⟩
  obtain ⟨a2, c2, hv2, hr2, hm2, -, -⟩ := ho2.form
  subst hv2
  have HR2 := Lib.hid hr2
  have hbb2 := below_then hb1 hb2 hb1.size
  clear ho2 hr2
  go_wp2_with fail
  refine (HRB.out _ (HR0.out.below hbb2)).mono ?_
  rintro e w3 ⟨v3, rfl, ho3, hb3⟩
  obtain ⟨a3, c3, hv3, hr3, -, -, -⟩ := ho3.form
  subst hv3
  have HR3 := Lib.hid hr3
  have HR23 := Lib.hid (HR2.out.below hb3)
  have hbb3 := below_then hbb2 hb3 hbb2.size
  clear ho3 hr3
  go_wp2_with fail
  refine (HTX.out _ _ _ _ HR23.out hm2).mono ?_
  rintro e w4 ⟨a4, n4, c4, rfl, hr4, hm4, -, hb4⟩
  have HR4 := Lib.hid hr4
  have hbb4 := below_then hbb3 hb4 hbb3.size
  clear hr4
  have hEE : (E != E) = false := by simp
  rw [HF1.out]
  have hr4 := HR4.out
  rw [HF2.out] at hr4
  obtain rfl : n4 = n0 := by have h1 := hr4.1; have h2 := HR0.out.1; omega
  have HR44 := Lib.hid hr4
  clear hr4
  go_wp2_with fail
  refine (same_refl _ _ _ _ _ K _ (HR23.out.below hb4) (HR3.out.below hb4)).mono ?_
  rintro e w5 ⟨rfl, hb5⟩
  have hbb5 := below_then hbb4 hb5 hbb4.size
  go_wp2_with fail
  refine (same_refl _ _ _ _ _ t _ (HR44.out.below hb5) (HR0.out.below hbb5)).mono ?_
  rintro e w6 ⟨rfl, hb6⟩
  have hbb6 := below_then hbb5 hb6 hbb5.size
  go_wp2_with fail
  refine (HPC.out _ (HR1.out.below hbb6)).mono ?_
  rintro e w7 ⟨v7, rfl, ho7, hb7⟩
  obtain ⟨a7, c7, hv7, hr7, -, -, -⟩ := ho7.form
  subst hv7
  have HR7 := Lib.hid hr7
  have hbb7 := below_then hbb6 hb7 hbb6.size
  clear ho7 hr7
  go_wp2_with fail
  refine (HAG.out _ _ _ _ (show RQ _ a7 _ (P.pcL b) from HR7.out)).mono ?_
  rintro e w8 ⟨v8, rfl, ho8, hb8⟩
  obtain ⟨a8, c8, hv8, hr8, -, -, -⟩ := ho8.form
  rw [HBL.out] at hv8 hr8
  subst hv8
  have HR8 := Lib.hid hr8
  have hbb8 := below_then hbb7 hb8 hbb7.size
  clear ho8 hr8
  go_wp2_with fail
  refine (same_refl _ _ _ _ _ b _ HR8.out (HR1.out.below hbb8)).mono ?_
  rintro e wz ⟨rfl, hbz⟩
  go_wp2
  go_ret
  exact ⟨rfl, below_then hbb8 hbz hbb8.size⟩
set_option maxRecDepth 100000 in
set_option maxHeartbeats 3200000 in
theorem ctexts_g_k (a0 : Option Addr) (n0 c0 : Nat) (t : List UInt8) (a1 : Option Addr) (n1 c1 : Nat) (b : List UInt8) (w : World) (hr0 : Rd w a0 n0 t) (hc0 : n0 ≤ c0) (hr1 : Rd w a1 n1 b) (hc1 : n1 ≤ c1) (hl0 : n0 ≤ 2000) (hl1 : n1 ≤ 2000) (hE : P.txtErr t = 0) (hp : P.pcErr b ≠ 0) (hk : P.kdErr b = 0) : Calls Try.prog 16 #[.slice a0 n0 c0, .slice a1 n1 c1] w fun e w' => e = .returned (.bool true) ∧ Below w.heap.size w w' := by
  have h2a : decide (2000 < (n0 : Int)) = false := decide_eq_false (by omega)
  have h2b : decide (2000 < (n1 : Int)) = false := decide_eq_false (by omega)
  have HBY := Lib.hid (fun w (h : Rd w a0 n0 t) => bytes_fun a0 n0 c0 t w h)
  have HRB := Lib.hid (fun w (h : Rd w a0 n0 t) => rbytes_fun a0 n0 c0 t w h)
  have HTX := Lib.hid (fun a n c w (h : Rd w a n (P.txtB t)) (hc : n ≤ c) => text_fun a n c (P.txtB t) w h hc)
  have HPC := Lib.hid (fun w (h : Rd w a1 n1 b) => pieces_fun a1 n1 c1 b w h hc1)
  have HKD := Lib.hid (fun w (h : Rd w a1 n1 b) => kids_fun a1 n1 c1 b w h hc1)
  have HTB := Lib.hid (fun w (h : Rd w a1 n1 b) => text_fun a1 n1 c1 b w h hc1)
  have HR0 := Lib.hid hr0
  have HR1 := Lib.hid hr1
  have hbl : b.length = n1 := hr1.1
  obtain ⟨f1, f2⟩ := P.txt_back t hE
  have HF1 := Lib.hid f1
  have HF2 := Lib.hid f2
  have hE0 : (P.txtErr t == 0) = true := by simp [hE]
  obtain ⟨E, hEE⟩ : ∃ E, E = P.txtErr t := ⟨_, rfl⟩
  obtain ⟨K, hKK⟩ : ∃ K, K = P.txtB t := ⟨_, rfl⟩
  rw [← hEE] at HBY HRB hE0
  rw [← hKK] at HBY HRB HTX
  rw [← hKK] at HF1 HF2
  obtain ⟨g1, g2⟩ := P.inn_again b hk
  have HAG := Lib.hid (fun a n c w (h : RQ w a n (P.kdL b)) => inner_fun (P.kdV b) a n c (P.kdL b) w h)
  rw [g1, g2] at HAG
  rw [hk] at HKD
  have hpb : (P.pcErr b == 0) = false := by simpa using hp
  have HBL := Lib.hid hbl
  clear hr0 hr1 hE hEE hKK hbl hp hk g1 g2 f1 f2
  go_enter Try.func16, Try.ntmps16
  go_wp2_with fail
  refine (awake8_any _).mono ?_
  rintro e w1 ⟨rfl, hb1⟩
  go_wp2_with fail
  refine (HBY.out _ (HR0.out.below hb1)).mono ?_
  rintro e w2 ⟨v2, rfl, ho2, hb2⟩
  obtain ⟨a2, c2, hv2, hr2, hm2, -, -⟩ := ho2.form
  subst hv2
  have HR2 := Lib.hid hr2
  have hbb2 := below_then hb1 hb2 hb1.size
  clear ho2 hr2
  go_wp2_with fail
  refine (HRB.out _ (HR0.out.below hbb2)).mono ?_
  rintro e w3 ⟨v3, rfl, ho3, hb3⟩
  obtain ⟨a3, c3, hv3, hr3, -, -, -⟩ := ho3.form
  subst hv3
  have HR3 := Lib.hid hr3
  have HR23 := Lib.hid (HR2.out.below hb3)
  have hbb3 := below_then hbb2 hb3 hbb2.size
  clear ho3 hr3
  go_wp2_with fail
  refine (HTX.out _ _ _ _ HR23.out hm2).mono ?_
  rintro e w4 ⟨a4, n4, c4, rfl, hr4, hm4, -, hb4⟩
  have HR4 := Lib.hid hr4
  have hbb4 := below_then hbb3 hb4 hbb3.size
  clear hr4
  have hEE : (E != E) = false := by simp
  rw [HF1.out]
  have hr4 := HR4.out
  rw [HF2.out] at hr4
  obtain rfl : n4 = n0 := by have h1 := hr4.1; have h2 := HR0.out.1; omega
  have HR44 := Lib.hid hr4
  clear hr4
  go_wp2_with fail
  refine (same_refl _ _ _ _ _ K _ (HR23.out.below hb4) (HR3.out.below hb4)).mono ?_
  rintro e w5 ⟨rfl, hb5⟩
  have hbb5 := below_then hbb4 hb5 hbb4.size
  go_wp2_with fail
  refine (same_refl _ _ _ _ _ t _ (HR44.out.below hb5) (HR0.out.below hbb5)).mono ?_
  rintro e w6 ⟨rfl, hb6⟩
  have hbb6 := below_then hbb5 hb6 hbb5.size
  go_wp2_with fail
  refine (HPC.out _ (HR1.out.below hbb6)).mono ?_
  rintro e w7 ⟨v7, rfl, ho7, hb7⟩
  obtain ⟨a7, c7, hv7, hr7, -, -, -⟩ := ho7.form
  subst hv7
  have HR7 := Lib.hid hr7
  have hbb7 := below_then hbb6 hb7 hbb6.size
  clear ho7 hr7
  go_wp2_with fail
  refine (HKD.out _ (HR1.out.below hbb7)).mono ?_
  rintro e w8 ⟨v8, rfl, ho8, hb8⟩
  obtain ⟨a8, c8, hv8, hr8, -, -, -⟩ := ho8.form
  subst hv8
  have HR8 := Lib.hid hr8
  have hbb8 := below_then hbb7 hb8 hbb7.size
  clear ho8 hr8
  go_wp2_with fail
  refine (HAG.out _ _ _ _ (show RQ _ a8 _ (P.kdL b) from HR8.out)).mono ?_
  rintro e w9 ⟨v9, rfl, ho9, hb9⟩
  obtain ⟨a9, c9, hv9, hr9, -, -, -⟩ := ho9.form
  rw [HBL.out] at hv9 hr9
  subst hv9
  have HR9 := Lib.hid hr9
  have hbb9 := below_then hbb8 hb9 hbb8.size
  clear ho9 hr9
  go_wp2_with fail
  refine (same_refl _ _ _ _ _ b _ HR9.out (HR1.out.below hbb9)).mono ?_
  rintro e wz ⟨rfl, hbz⟩
  go_wp2
  go_ret
  exact ⟨rfl, below_then hbb9 hbz hbb9.size⟩
set_option maxRecDepth 100000 in
set_option maxHeartbeats 3200000 in
theorem ctexts_g_t (a0 : Option Addr) (n0 c0 : Nat) (t : List UInt8) (a1 : Option Addr) (n1 c1 : Nat) (b : List UInt8) (w : World) (hr0 : Rd w a0 n0 t) (hc0 : n0 ≤ c0) (hr1 : Rd w a1 n1 b) (hc1 : n1 ≤ c1) (hl0 : n0 ≤ 2000) (hl1 : n1 ≤ 2000) (hE : P.txtErr t = 0) (hp : P.pcErr b ≠ 0) (hk : P.kdErr b ≠ 0) (ht : P.txErr b = 0) : Calls Try.prog 16 #[.slice a0 n0 c0, .slice a1 n1 c1] w fun e w' => e = .returned (.bool true) ∧ Below w.heap.size w w' := by
  have h2a : decide (2000 < (n0 : Int)) = false := decide_eq_false (by omega)
  have h2b : decide (2000 < (n1 : Int)) = false := decide_eq_false (by omega)
  have HBY := Lib.hid (fun w (h : Rd w a0 n0 t) => bytes_fun a0 n0 c0 t w h)
  have HRB := Lib.hid (fun w (h : Rd w a0 n0 t) => rbytes_fun a0 n0 c0 t w h)
  have HTX := Lib.hid (fun a n c w (h : Rd w a n (P.txtB t)) (hc : n ≤ c) => text_fun a n c (P.txtB t) w h hc)
  have HPC := Lib.hid (fun w (h : Rd w a1 n1 b) => pieces_fun a1 n1 c1 b w h hc1)
  have HKD := Lib.hid (fun w (h : Rd w a1 n1 b) => kids_fun a1 n1 c1 b w h hc1)
  have HTB := Lib.hid (fun w (h : Rd w a1 n1 b) => text_fun a1 n1 c1 b w h hc1)
  have HR0 := Lib.hid hr0
  have HR1 := Lib.hid hr1
  have hbl : b.length = n1 := hr1.1
  obtain ⟨f1, f2⟩ := P.txt_back t hE
  have HF1 := Lib.hid f1
  have HF2 := Lib.hid f2
  have hE0 : (P.txtErr t == 0) = true := by simp [hE]
  obtain ⟨E, hEE⟩ : ∃ E, E = P.txtErr t := ⟨_, rfl⟩
  obtain ⟨K, hKK⟩ : ∃ K, K = P.txtB t := ⟨_, rfl⟩
  rw [← hEE] at HBY HRB hE0
  rw [← hKK] at HBY HRB HTX
  rw [← hKK] at HF1 HF2
  obtain ⟨g1, g2⟩ := P.txt_again b ht
  have HAG := Lib.hid (fun a n c w (h : Rd w a n (P.txL b)) => bytes_fun a n c (P.txL b) w h)
  rw [g1, g2] at HAG
  have hpb : (P.pcErr b == 0) = false := by simpa using hp
  have hkb : (P.kdErr b == 0) = false := by simpa using hk
  have HT0 := Lib.hid ht
  have HBL := Lib.hid hbl
  clear hr0 hr1 hE hEE hKK hbl hp hk ht g1 g2 f1 f2
  go_enter Try.func16, Try.ntmps16
  go_wp2_with fail
  refine (awake8_any _).mono ?_
  rintro e w1 ⟨rfl, hb1⟩
  go_wp2_with fail
  refine (HBY.out _ (HR0.out.below hb1)).mono ?_
  rintro e w2 ⟨v2, rfl, ho2, hb2⟩
  obtain ⟨a2, c2, hv2, hr2, hm2, -, -⟩ := ho2.form
  subst hv2
  have HR2 := Lib.hid hr2
  have hbb2 := below_then hb1 hb2 hb1.size
  clear ho2 hr2
  go_wp2_with fail
  refine (HRB.out _ (HR0.out.below hbb2)).mono ?_
  rintro e w3 ⟨v3, rfl, ho3, hb3⟩
  obtain ⟨a3, c3, hv3, hr3, -, -, -⟩ := ho3.form
  subst hv3
  have HR3 := Lib.hid hr3
  have HR23 := Lib.hid (HR2.out.below hb3)
  have hbb3 := below_then hbb2 hb3 hbb2.size
  clear ho3 hr3
  go_wp2_with fail
  refine (HTX.out _ _ _ _ HR23.out hm2).mono ?_
  rintro e w4 ⟨a4, n4, c4, rfl, hr4, hm4, -, hb4⟩
  have HR4 := Lib.hid hr4
  have hbb4 := below_then hbb3 hb4 hbb3.size
  clear hr4
  have hEE : (E != E) = false := by simp
  rw [HF1.out]
  have hr4 := HR4.out
  rw [HF2.out] at hr4
  obtain rfl : n4 = n0 := by have h1 := hr4.1; have h2 := HR0.out.1; omega
  have HR44 := Lib.hid hr4
  clear hr4
  go_wp2_with fail
  refine (same_refl _ _ _ _ _ K _ (HR23.out.below hb4) (HR3.out.below hb4)).mono ?_
  rintro e w5 ⟨rfl, hb5⟩
  have hbb5 := below_then hbb4 hb5 hbb4.size
  go_wp2_with fail
  refine (same_refl _ _ _ _ _ t _ (HR44.out.below hb5) (HR0.out.below hbb5)).mono ?_
  rintro e w6 ⟨rfl, hb6⟩
  have hbb6 := below_then hbb5 hb6 hbb5.size
  go_wp2_with fail
  refine (HPC.out _ (HR1.out.below hbb6)).mono ?_
  rintro e w7 ⟨v7, rfl, ho7, hb7⟩
  obtain ⟨a7, c7, hv7, hr7, -, -, -⟩ := ho7.form
  subst hv7
  have HR7 := Lib.hid hr7
  have hbb7 := below_then hbb6 hb7 hbb6.size
  clear ho7 hr7
  go_wp2_with fail
  refine (HKD.out _ (HR1.out.below hbb7)).mono ?_
  rintro e w8 ⟨v8, rfl, ho8, hb8⟩
  obtain ⟨a8, c8, hv8, hr8, -, -, -⟩ := ho8.form
  subst hv8
  have HR8 := Lib.hid hr8
  have hbb8 := below_then hbb7 hb8 hbb7.size
  clear ho8 hr8
  go_wp2_with fail
  refine (HTB.out _ (HR1.out.below hbb8)).mono ?_
  rintro e w9 ⟨a9, n9, c9, rfl, hr9, -, -, hb9⟩
  have HR9 := Lib.hid hr9
  have hbb9 := below_then hbb8 hb9 hbb8.size
  clear hr9
  rw [HT0.out]
  go_wp2_with fail
  refine (HAG.out _ _ _ _ HR9.out).mono ?_
  rintro e w10 ⟨v10, rfl, ho10, hb10⟩
  obtain ⟨a10, c10, hv10, hr10, -, -, -⟩ := ho10.form
  rw [HBL.out] at hv10 hr10
  subst hv10
  have HR10 := Lib.hid hr10
  have hbb10 := below_then hbb9 hb10 hbb9.size
  clear ho10 hr10
  go_wp2_with fail
  refine (same_refl _ _ _ _ _ b _ HR10.out (HR1.out.below hbb10)).mono ?_
  rintro e wz ⟨rfl, hbz⟩
  go_wp2
  go_ret
  exact ⟨rfl, below_then hbb10 hbz hbb10.size⟩
set_option maxRecDepth 100000 in
set_option maxHeartbeats 3200000 in
theorem ctexts_g_n (a0 : Option Addr) (n0 c0 : Nat) (t : List UInt8) (a1 : Option Addr) (n1 c1 : Nat) (b : List UInt8) (w : World) (hr0 : Rd w a0 n0 t) (hc0 : n0 ≤ c0) (hr1 : Rd w a1 n1 b) (hc1 : n1 ≤ c1) (hl0 : n0 ≤ 2000) (hl1 : n1 ≤ 2000) (hE : P.txtErr t = 0) (hp : P.pcErr b ≠ 0) (hk : P.kdErr b ≠ 0) (ht : P.txErr b ≠ 0) : Calls Try.prog 16 #[.slice a0 n0 c0, .slice a1 n1 c1] w fun e w' => e = .returned (.bool true) ∧ Below w.heap.size w w' := by
  have h2a : decide (2000 < (n0 : Int)) = false := decide_eq_false (by omega)
  have h2b : decide (2000 < (n1 : Int)) = false := decide_eq_false (by omega)
  have HBY := Lib.hid (fun w (h : Rd w a0 n0 t) => bytes_fun a0 n0 c0 t w h)
  have HRB := Lib.hid (fun w (h : Rd w a0 n0 t) => rbytes_fun a0 n0 c0 t w h)
  have HTX := Lib.hid (fun a n c w (h : Rd w a n (P.txtB t)) (hc : n ≤ c) => text_fun a n c (P.txtB t) w h hc)
  have HPC := Lib.hid (fun w (h : Rd w a1 n1 b) => pieces_fun a1 n1 c1 b w h hc1)
  have HKD := Lib.hid (fun w (h : Rd w a1 n1 b) => kids_fun a1 n1 c1 b w h hc1)
  have HTB := Lib.hid (fun w (h : Rd w a1 n1 b) => text_fun a1 n1 c1 b w h hc1)
  have HR0 := Lib.hid hr0
  have HR1 := Lib.hid hr1
  have hbl : b.length = n1 := hr1.1
  obtain ⟨f1, f2⟩ := P.txt_back t hE
  have HF1 := Lib.hid f1
  have HF2 := Lib.hid f2
  have hE0 : (P.txtErr t == 0) = true := by simp [hE]
  obtain ⟨E, hEE⟩ : ∃ E, E = P.txtErr t := ⟨_, rfl⟩
  obtain ⟨K, hKK⟩ : ∃ K, K = P.txtB t := ⟨_, rfl⟩
  rw [← hEE] at HBY HRB hE0
  rw [← hKK] at HBY HRB HTX
  rw [← hKK] at HF1 HF2
  have hpb : (P.pcErr b == 0) = false := by simpa using hp
  have hkb : (P.kdErr b == 0) = false := by simpa using hk
  have htb : (P.txErr b == 0) = false := by simpa using ht
  have HBL := Lib.hid hbl
  clear hr0 hr1 hE hEE hKK hbl hp hk ht f1 f2
  go_enter Try.func16, Try.ntmps16
  go_wp2_with fail
  refine (awake8_any _).mono ?_
  rintro e w1 ⟨rfl, hb1⟩
  go_wp2_with fail
  refine (HBY.out _ (HR0.out.below hb1)).mono ?_
  rintro e w2 ⟨v2, rfl, ho2, hb2⟩
  obtain ⟨a2, c2, hv2, hr2, hm2, -, -⟩ := ho2.form
  subst hv2
  have HR2 := Lib.hid hr2
  have hbb2 := below_then hb1 hb2 hb1.size
  clear ho2 hr2
  go_wp2_with fail
  refine (HRB.out _ (HR0.out.below hbb2)).mono ?_
  rintro e w3 ⟨v3, rfl, ho3, hb3⟩
  obtain ⟨a3, c3, hv3, hr3, -, -, -⟩ := ho3.form
  subst hv3
  have HR3 := Lib.hid hr3
  have HR23 := Lib.hid (HR2.out.below hb3)
  have hbb3 := below_then hbb2 hb3 hbb2.size
  clear ho3 hr3
  go_wp2_with fail
  refine (HTX.out _ _ _ _ HR23.out hm2).mono ?_
  rintro e w4 ⟨a4, n4, c4, rfl, hr4, hm4, -, hb4⟩
  have HR4 := Lib.hid hr4
  have hbb4 := below_then hbb3 hb4 hbb3.size
  clear hr4
  have hEE : (E != E) = false := by simp
  rw [HF1.out]
  have hr4 := HR4.out
  rw [HF2.out] at hr4
  obtain rfl : n4 = n0 := by have h1 := hr4.1; have h2 := HR0.out.1; omega
  have HR44 := Lib.hid hr4
  clear hr4
  go_wp2_with fail
  refine (same_refl _ _ _ _ _ K _ (HR23.out.below hb4) (HR3.out.below hb4)).mono ?_
  rintro e w5 ⟨rfl, hb5⟩
  have hbb5 := below_then hbb4 hb5 hbb4.size
  go_wp2_with fail
  refine (same_refl _ _ _ _ _ t _ (HR44.out.below hb5) (HR0.out.below hbb5)).mono ?_
  rintro e w6 ⟨rfl, hb6⟩
  have hbb6 := below_then hbb5 hb6 hbb5.size
  go_wp2_with fail
  refine (HPC.out _ (HR1.out.below hbb6)).mono ?_
  rintro e w7 ⟨v7, rfl, ho7, hb7⟩
  obtain ⟨a7, c7, hv7, hr7, -, -, -⟩ := ho7.form
  subst hv7
  have HR7 := Lib.hid hr7
  have hbb7 := below_then hbb6 hb7 hbb6.size
  clear ho7 hr7
  go_wp2_with fail
  refine (HKD.out _ (HR1.out.below hbb7)).mono ?_
  rintro e w8 ⟨v8, rfl, ho8, hb8⟩
  obtain ⟨a8, c8, hv8, hr8, -, -, -⟩ := ho8.form
  subst hv8
  have HR8 := Lib.hid hr8
  have hbb8 := below_then hbb7 hb8 hbb7.size
  clear ho8 hr8
  go_wp2_with fail
  refine (HTB.out _ (HR1.out.below hbb8)).mono ?_
  rintro e w9 ⟨a9, n9, c9, rfl, hr9, -, -, hb9⟩
  have HR9 := Lib.hid hr9
  have hbb9 := below_then hbb8 hb9 hbb8.size
  clear hr9
  go_wp2
  go_ret
  exact ⟨rfl, hbb9⟩
set_option maxRecDepth 100000 in
set_option maxHeartbeats 3200000 in
theorem ctexts_b_p (a0 : Option Addr) (n0 c0 : Nat) (t : List UInt8) (a1 : Option Addr) (n1 c1 : Nat) (b : List UInt8) (w : World) (hr0 : Rd w a0 n0 t) (hc0 : n0 ≤ c0) (hr1 : Rd w a1 n1 b) (hc1 : n1 ≤ c1) (hl0 : n0 ≤ 2000) (hl1 : n1 ≤ 2000) (hE : P.txtErr t ≠ 0) (hp : P.pcErr b = 0) : Calls Try.prog 16 #[.slice a0 n0 c0, .slice a1 n1 c1] w fun e w' => e = .returned (.bool true) ∧ Below w.heap.size w w' := by
  have h2a : decide (2000 < (n0 : Int)) = false := decide_eq_false (by omega)
  have h2b : decide (2000 < (n1 : Int)) = false := decide_eq_false (by omega)
  have HBY := Lib.hid (fun w (h : Rd w a0 n0 t) => bytes_fun a0 n0 c0 t w h)
  have HRB := Lib.hid (fun w (h : Rd w a0 n0 t) => rbytes_fun a0 n0 c0 t w h)
  have HTX := Lib.hid (fun a n c w (h : Rd w a n (P.txtB t)) (hc : n ≤ c) => text_fun a n c (P.txtB t) w h hc)
  have HPC := Lib.hid (fun w (h : Rd w a1 n1 b) => pieces_fun a1 n1 c1 b w h hc1)
  have HKD := Lib.hid (fun w (h : Rd w a1 n1 b) => kids_fun a1 n1 c1 b w h hc1)
  have HTB := Lib.hid (fun w (h : Rd w a1 n1 b) => text_fun a1 n1 c1 b w h hc1)
  have HR0 := Lib.hid hr0
  have HR1 := Lib.hid hr1
  have hbl : b.length = n1 := hr1.1
  have hE0 : (P.txtErr t == 0) = false := by simpa using hE
  obtain ⟨E, hEE⟩ : ∃ E, E = P.txtErr t := ⟨_, rfl⟩
  obtain ⟨K, hKK⟩ : ∃ K, K = P.txtB t := ⟨_, rfl⟩
  rw [← hEE] at HBY HRB hE0
  rw [← hKK] at HBY HRB HTX
  obtain ⟨g1, g2⟩ := P.leaf_again b hp
  have HAG := Lib.hid (fun a n c w (h : RQ w a n (P.pcL b)) => leaf_fun a n c (P.pcL b) w h)
  rw [g1, g2] at HAG
  rw [hp] at HPC
  have HBL := Lib.hid hbl
  clear hr0 hr1 hE hEE hKK hbl hp g1 g2
  go_enter Try.func16, Try.ntmps16
  go_wp2_with fail
  refine (awake8_any _).mono ?_
  rintro e w1 ⟨rfl, hb1⟩
  go_wp2_with fail
  refine (HBY.out _ (HR0.out.below hb1)).mono ?_
  rintro e w2 ⟨v2, rfl, ho2, hb2⟩
  obtain ⟨a2, c2, hv2, hr2, hm2, -, -⟩ := ho2.form
  subst hv2
  have HR2 := Lib.hid hr2
  have hbb2 := below_then hb1 hb2 hb1.size
  clear ho2 hr2
  go_wp2_with fail
  refine (HRB.out _ (HR0.out.below hbb2)).mono ?_
  rintro e w3 ⟨v3, rfl, ho3, hb3⟩
  obtain ⟨a3, c3, hv3, hr3, -, -, -⟩ := ho3.form
  subst hv3
  have HR3 := Lib.hid hr3
  have HR23 := Lib.hid (HR2.out.below hb3)
  have hbb3 := below_then hbb2 hb3 hbb2.size
  clear ho3 hr3
  go_wp2_with fail
  refine (HTX.out _ _ _ _ HR23.out hm2).mono ?_
  rintro e w4 ⟨a4, n4, c4, rfl, hr4, hm4, -, hb4⟩
  have HR4 := Lib.hid hr4
  have hbb4 := below_then hbb3 hb4 hbb3.size
  clear hr4
  have hEE : (E != E) = false := by simp
  go_wp2_with fail
  refine (same_refl _ _ _ _ _ K _ (HR23.out.below hb4) (HR3.out.below hb4)).mono ?_
  rintro e w5 ⟨rfl, hb5⟩
  have hbb5 := below_then hbb4 hb5 hbb4.size
  have hbb6 := hbb5
  go_wp2_with fail
  refine (HPC.out _ (HR1.out.below hbb6)).mono ?_
  rintro e w7 ⟨v7, rfl, ho7, hb7⟩
  obtain ⟨a7, c7, hv7, hr7, -, -, -⟩ := ho7.form
  subst hv7
  have HR7 := Lib.hid hr7
  have hbb7 := below_then hbb6 hb7 hbb6.size
  clear ho7 hr7
  go_wp2_with fail
  refine (HAG.out _ _ _ _ (show RQ _ a7 _ (P.pcL b) from HR7.out)).mono ?_
  rintro e w8 ⟨v8, rfl, ho8, hb8⟩
  obtain ⟨a8, c8, hv8, hr8, -, -, -⟩ := ho8.form
  rw [HBL.out] at hv8 hr8
  subst hv8
  have HR8 := Lib.hid hr8
  have hbb8 := below_then hbb7 hb8 hbb7.size
  clear ho8 hr8
  go_wp2_with fail
  refine (same_refl _ _ _ _ _ b _ HR8.out (HR1.out.below hbb8)).mono ?_
  rintro e wz ⟨rfl, hbz⟩
  go_wp2
  go_ret
  exact ⟨rfl, below_then hbb8 hbz hbb8.size⟩
set_option maxRecDepth 100000 in
set_option maxHeartbeats 3200000 in
theorem ctexts_b_k (a0 : Option Addr) (n0 c0 : Nat) (t : List UInt8) (a1 : Option Addr) (n1 c1 : Nat) (b : List UInt8) (w : World) (hr0 : Rd w a0 n0 t) (hc0 : n0 ≤ c0) (hr1 : Rd w a1 n1 b) (hc1 : n1 ≤ c1) (hl0 : n0 ≤ 2000) (hl1 : n1 ≤ 2000) (hE : P.txtErr t ≠ 0) (hp : P.pcErr b ≠ 0) (hk : P.kdErr b = 0) : Calls Try.prog 16 #[.slice a0 n0 c0, .slice a1 n1 c1] w fun e w' => e = .returned (.bool true) ∧ Below w.heap.size w w' := by
  have h2a : decide (2000 < (n0 : Int)) = false := decide_eq_false (by omega)
  have h2b : decide (2000 < (n1 : Int)) = false := decide_eq_false (by omega)
  have HBY := Lib.hid (fun w (h : Rd w a0 n0 t) => bytes_fun a0 n0 c0 t w h)
  have HRB := Lib.hid (fun w (h : Rd w a0 n0 t) => rbytes_fun a0 n0 c0 t w h)
  have HTX := Lib.hid (fun a n c w (h : Rd w a n (P.txtB t)) (hc : n ≤ c) => text_fun a n c (P.txtB t) w h hc)
  have HPC := Lib.hid (fun w (h : Rd w a1 n1 b) => pieces_fun a1 n1 c1 b w h hc1)
  have HKD := Lib.hid (fun w (h : Rd w a1 n1 b) => kids_fun a1 n1 c1 b w h hc1)
  have HTB := Lib.hid (fun w (h : Rd w a1 n1 b) => text_fun a1 n1 c1 b w h hc1)
  have HR0 := Lib.hid hr0
  have HR1 := Lib.hid hr1
  have hbl : b.length = n1 := hr1.1
  have hE0 : (P.txtErr t == 0) = false := by simpa using hE
  obtain ⟨E, hEE⟩ : ∃ E, E = P.txtErr t := ⟨_, rfl⟩
  obtain ⟨K, hKK⟩ : ∃ K, K = P.txtB t := ⟨_, rfl⟩
  rw [← hEE] at HBY HRB hE0
  rw [← hKK] at HBY HRB HTX
  obtain ⟨g1, g2⟩ := P.inn_again b hk
  have HAG := Lib.hid (fun a n c w (h : RQ w a n (P.kdL b)) => inner_fun (P.kdV b) a n c (P.kdL b) w h)
  rw [g1, g2] at HAG
  rw [hk] at HKD
  have hpb : (P.pcErr b == 0) = false := by simpa using hp
  have HBL := Lib.hid hbl
  clear hr0 hr1 hE hEE hKK hbl hp hk g1 g2
  go_enter Try.func16, Try.ntmps16
  go_wp2_with fail
  refine (awake8_any _).mono ?_
  rintro e w1 ⟨rfl, hb1⟩
  go_wp2_with fail
  refine (HBY.out _ (HR0.out.below hb1)).mono ?_
  rintro e w2 ⟨v2, rfl, ho2, hb2⟩
  obtain ⟨a2, c2, hv2, hr2, hm2, -, -⟩ := ho2.form
  subst hv2
  have HR2 := Lib.hid hr2
  have hbb2 := below_then hb1 hb2 hb1.size
  clear ho2 hr2
  go_wp2_with fail
  refine (HRB.out _ (HR0.out.below hbb2)).mono ?_
  rintro e w3 ⟨v3, rfl, ho3, hb3⟩
  obtain ⟨a3, c3, hv3, hr3, -, -, -⟩ := ho3.form
  subst hv3
  have HR3 := Lib.hid hr3
  have HR23 := Lib.hid (HR2.out.below hb3)
  have hbb3 := below_then hbb2 hb3 hbb2.size
  clear ho3 hr3
  go_wp2_with fail
  refine (HTX.out _ _ _ _ HR23.out hm2).mono ?_
  rintro e w4 ⟨a4, n4, c4, rfl, hr4, hm4, -, hb4⟩
  have HR4 := Lib.hid hr4
  have hbb4 := below_then hbb3 hb4 hbb3.size
  clear hr4
  have hEE : (E != E) = false := by simp
  go_wp2_with fail
  refine (same_refl _ _ _ _ _ K _ (HR23.out.below hb4) (HR3.out.below hb4)).mono ?_
  rintro e w5 ⟨rfl, hb5⟩
  have hbb5 := below_then hbb4 hb5 hbb4.size
  have hbb6 := hbb5
  go_wp2_with fail
  refine (HPC.out _ (HR1.out.below hbb6)).mono ?_
  rintro e w7 ⟨v7, rfl, ho7, hb7⟩
  obtain ⟨a7, c7, hv7, hr7, -, -, -⟩ := ho7.form
  subst hv7
  have HR7 := Lib.hid hr7
  have hbb7 := below_then hbb6 hb7 hbb6.size
  clear ho7 hr7
  go_wp2_with fail
  refine (HKD.out _ (HR1.out.below hbb7)).mono ?_
  rintro e w8 ⟨v8, rfl, ho8, hb8⟩
  obtain ⟨a8, c8, hv8, hr8, -, -, -⟩ := ho8.form
  subst hv8
  have HR8 := Lib.hid hr8
  have hbb8 := below_then hbb7 hb8 hbb7.size
  clear ho8 hr8
  go_wp2_with fail
  refine (HAG.out _ _ _ _ (show RQ _ a8 _ (P.kdL b) from HR8.out)).mono ?_
  rintro e w9 ⟨v9, rfl, ho9, hb9⟩
  obtain ⟨a9, c9, hv9, hr9, -, -, -⟩ := ho9.form
  rw [HBL.out] at hv9 hr9
  subst hv9
  have HR9 := Lib.hid hr9
  have hbb9 := below_then hbb8 hb9 hbb8.size
  clear ho9 hr9
  go_wp2_with fail
  refine (same_refl _ _ _ _ _ b _ HR9.out (HR1.out.below hbb9)).mono ?_
  rintro e wz ⟨rfl, hbz⟩
  go_wp2
  go_ret
  exact ⟨rfl, below_then hbb9 hbz hbb9.size⟩
set_option maxRecDepth 100000 in
set_option maxHeartbeats 3200000 in
theorem ctexts_b_t (a0 : Option Addr) (n0 c0 : Nat) (t : List UInt8) (a1 : Option Addr) (n1 c1 : Nat) (b : List UInt8) (w : World) (hr0 : Rd w a0 n0 t) (hc0 : n0 ≤ c0) (hr1 : Rd w a1 n1 b) (hc1 : n1 ≤ c1) (hl0 : n0 ≤ 2000) (hl1 : n1 ≤ 2000) (hE : P.txtErr t ≠ 0) (hp : P.pcErr b ≠ 0) (hk : P.kdErr b ≠ 0) (ht : P.txErr b = 0) : Calls Try.prog 16 #[.slice a0 n0 c0, .slice a1 n1 c1] w fun e w' => e = .returned (.bool true) ∧ Below w.heap.size w w' := by
  have h2a : decide (2000 < (n0 : Int)) = false := decide_eq_false (by omega)
  have h2b : decide (2000 < (n1 : Int)) = false := decide_eq_false (by omega)
  have HBY := Lib.hid (fun w (h : Rd w a0 n0 t) => bytes_fun a0 n0 c0 t w h)
  have HRB := Lib.hid (fun w (h : Rd w a0 n0 t) => rbytes_fun a0 n0 c0 t w h)
  have HTX := Lib.hid (fun a n c w (h : Rd w a n (P.txtB t)) (hc : n ≤ c) => text_fun a n c (P.txtB t) w h hc)
  have HPC := Lib.hid (fun w (h : Rd w a1 n1 b) => pieces_fun a1 n1 c1 b w h hc1)
  have HKD := Lib.hid (fun w (h : Rd w a1 n1 b) => kids_fun a1 n1 c1 b w h hc1)
  have HTB := Lib.hid (fun w (h : Rd w a1 n1 b) => text_fun a1 n1 c1 b w h hc1)
  have HR0 := Lib.hid hr0
  have HR1 := Lib.hid hr1
  have hbl : b.length = n1 := hr1.1
  have hE0 : (P.txtErr t == 0) = false := by simpa using hE
  obtain ⟨E, hEE⟩ : ∃ E, E = P.txtErr t := ⟨_, rfl⟩
  obtain ⟨K, hKK⟩ : ∃ K, K = P.txtB t := ⟨_, rfl⟩
  rw [← hEE] at HBY HRB hE0
  rw [← hKK] at HBY HRB HTX
  obtain ⟨g1, g2⟩ := P.txt_again b ht
  have HAG := Lib.hid (fun a n c w (h : Rd w a n (P.txL b)) => bytes_fun a n c (P.txL b) w h)
  rw [g1, g2] at HAG
  have hpb : (P.pcErr b == 0) = false := by simpa using hp
  have hkb : (P.kdErr b == 0) = false := by simpa using hk
  have HT0 := Lib.hid ht
  have HBL := Lib.hid hbl
  clear hr0 hr1 hE hEE hKK hbl hp hk ht g1 g2
  go_enter Try.func16, Try.ntmps16
  go_wp2_with fail
  refine (awake8_any _).mono ?_
  rintro e w1 ⟨rfl, hb1⟩
  go_wp2_with fail
  refine (HBY.out _ (HR0.out.below hb1)).mono ?_
  rintro e w2 ⟨v2, rfl, ho2, hb2⟩
  obtain ⟨a2, c2, hv2, hr2, hm2, -, -⟩ := ho2.form
  subst hv2
  have HR2 := Lib.hid hr2
  have hbb2 := below_then hb1 hb2 hb1.size
  clear ho2 hr2
  go_wp2_with fail
  refine (HRB.out _ (HR0.out.below hbb2)).mono ?_
  rintro e w3 ⟨v3, rfl, ho3, hb3⟩
  obtain ⟨a3, c3, hv3, hr3, -, -, -⟩ := ho3.form
  subst hv3
  have HR3 := Lib.hid hr3
  have HR23 := Lib.hid (HR2.out.below hb3)
  have hbb3 := below_then hbb2 hb3 hbb2.size
  clear ho3 hr3
  go_wp2_with fail
  refine (HTX.out _ _ _ _ HR23.out hm2).mono ?_
  rintro e w4 ⟨a4, n4, c4, rfl, hr4, hm4, -, hb4⟩
  have HR4 := Lib.hid hr4
  have hbb4 := below_then hbb3 hb4 hbb3.size
  clear hr4
  have hEE : (E != E) = false := by simp
  go_wp2_with fail
  refine (same_refl _ _ _ _ _ K _ (HR23.out.below hb4) (HR3.out.below hb4)).mono ?_
  rintro e w5 ⟨rfl, hb5⟩
  have hbb5 := below_then hbb4 hb5 hbb4.size
  have hbb6 := hbb5
  go_wp2_with fail
  refine (HPC.out _ (HR1.out.below hbb6)).mono ?_
  rintro e w7 ⟨v7, rfl, ho7, hb7⟩
  obtain ⟨a7, c7, hv7, hr7, -, -, -⟩ := ho7.form
  subst hv7
  have HR7 := Lib.hid hr7
  have hbb7 := below_then hbb6 hb7 hbb6.size
  clear ho7 hr7
  go_wp2_with fail
  refine (HKD.out _ (HR1.out.below hbb7)).mono ?_
  rintro e w8 ⟨v8, rfl, ho8, hb8⟩
  obtain ⟨a8, c8, hv8, hr8, -, -, -⟩ := ho8.form
  subst hv8
  have HR8 := Lib.hid hr8
  have hbb8 := below_then hbb7 hb8 hbb7.size
  clear ho8 hr8
  go_wp2_with fail
  refine (HTB.out _ (HR1.out.below hbb8)).mono ?_
  rintro e w9 ⟨a9, n9, c9, rfl, hr9, -, -, hb9⟩
  have HR9 := Lib.hid hr9
  have hbb9 := below_then hbb8 hb9 hbb8.size
  clear hr9
  rw [HT0.out]
  go_wp2_with fail
  refine (HAG.out _ _ _ _ HR9.out).mono ?_
  rintro e w10 ⟨v10, rfl, ho10, hb10⟩
  obtain ⟨a10, c10, hv10, hr10, -, -, -⟩ := ho10.form
  rw [HBL.out] at hv10 hr10
  subst hv10
  have HR10 := Lib.hid hr10
  have hbb10 := below_then hbb9 hb10 hbb9.size
  clear ho10 hr10
  go_wp2_with fail
  refine (same_refl _ _ _ _ _ b _ HR10.out (HR1.out.below hbb10)).mono ?_
  rintro e wz ⟨rfl, hbz⟩
  go_wp2
  go_ret
  exact ⟨rfl, below_then hbb10 hbz hbb10.size⟩
set_option maxRecDepth 100000 in
set_option maxHeartbeats 3200000 in
theorem ctexts_b_n (a0 : Option Addr) (n0 c0 : Nat) (t : List UInt8) (a1 : Option Addr) (n1 c1 : Nat) (b : List UInt8) (w : World) (hr0 : Rd w a0 n0 t) (hc0 : n0 ≤ c0) (hr1 : Rd w a1 n1 b) (hc1 : n1 ≤ c1) (hl0 : n0 ≤ 2000) (hl1 : n1 ≤ 2000) (hE : P.txtErr t ≠ 0) (hp : P.pcErr b ≠ 0) (hk : P.kdErr b ≠ 0) (ht : P.txErr b ≠ 0) : Calls Try.prog 16 #[.slice a0 n0 c0, .slice a1 n1 c1] w fun e w' => e = .returned (.bool true) ∧ Below w.heap.size w w' := by
  have h2a : decide (2000 < (n0 : Int)) = false := decide_eq_false (by omega)
  have h2b : decide (2000 < (n1 : Int)) = false := decide_eq_false (by omega)
  have HBY := Lib.hid (fun w (h : Rd w a0 n0 t) => bytes_fun a0 n0 c0 t w h)
  have HRB := Lib.hid (fun w (h : Rd w a0 n0 t) => rbytes_fun a0 n0 c0 t w h)
  have HTX := Lib.hid (fun a n c w (h : Rd w a n (P.txtB t)) (hc : n ≤ c) => text_fun a n c (P.txtB t) w h hc)
  have HPC := Lib.hid (fun w (h : Rd w a1 n1 b) => pieces_fun a1 n1 c1 b w h hc1)
  have HKD := Lib.hid (fun w (h : Rd w a1 n1 b) => kids_fun a1 n1 c1 b w h hc1)
  have HTB := Lib.hid (fun w (h : Rd w a1 n1 b) => text_fun a1 n1 c1 b w h hc1)
  have HR0 := Lib.hid hr0
  have HR1 := Lib.hid hr1
  have hbl : b.length = n1 := hr1.1
  have hE0 : (P.txtErr t == 0) = false := by simpa using hE
  obtain ⟨E, hEE⟩ : ∃ E, E = P.txtErr t := ⟨_, rfl⟩
  obtain ⟨K, hKK⟩ : ∃ K, K = P.txtB t := ⟨_, rfl⟩
  rw [← hEE] at HBY HRB hE0
  rw [← hKK] at HBY HRB HTX
  have hpb : (P.pcErr b == 0) = false := by simpa using hp
  have hkb : (P.kdErr b == 0) = false := by simpa using hk
  have htb : (P.txErr b == 0) = false := by simpa using ht
  have HBL := Lib.hid hbl
  clear hr0 hr1 hE hEE hKK hbl hp hk ht
  go_enter Try.func16, Try.ntmps16
  go_wp2_with fail
  refine (awake8_any _).mono ?_
  rintro e w1 ⟨rfl, hb1⟩
  go_wp2_with fail
  refine (HBY.out _ (HR0.out.below hb1)).mono ?_
  rintro e w2 ⟨v2, rfl, ho2, hb2⟩
  obtain ⟨a2, c2, hv2, hr2, hm2, -, -⟩ := ho2.form
  subst hv2
  have HR2 := Lib.hid hr2
  have hbb2 := below_then hb1 hb2 hb1.size
  clear ho2 hr2
  go_wp2_with fail
  refine (HRB.out _ (HR0.out.below hbb2)).mono ?_
  rintro e w3 ⟨v3, rfl, ho3, hb3⟩
  obtain ⟨a3, c3, hv3, hr3, -, -, -⟩ := ho3.form
  subst hv3
  have HR3 := Lib.hid hr3
  have HR23 := Lib.hid (HR2.out.below hb3)
  have hbb3 := below_then hbb2 hb3 hbb2.size
  clear ho3 hr3
  go_wp2_with fail
  refine (HTX.out _ _ _ _ HR23.out hm2).mono ?_
  rintro e w4 ⟨a4, n4, c4, rfl, hr4, hm4, -, hb4⟩
  have HR4 := Lib.hid hr4
  have hbb4 := below_then hbb3 hb4 hbb3.size
  clear hr4
  have hEE : (E != E) = false := by simp
  go_wp2_with fail
  refine (same_refl _ _ _ _ _ K _ (HR23.out.below hb4) (HR3.out.below hb4)).mono ?_
  rintro e w5 ⟨rfl, hb5⟩
  have hbb5 := below_then hbb4 hb5 hbb4.size
  have hbb6 := hbb5
  go_wp2_with fail
  refine (HPC.out _ (HR1.out.below hbb6)).mono ?_
  rintro e w7 ⟨v7, rfl, ho7, hb7⟩
  obtain ⟨a7, c7, hv7, hr7, -, -, -⟩ := ho7.form
  subst hv7
  have HR7 := Lib.hid hr7
  have hbb7 := below_then hbb6 hb7 hbb6.size
  clear ho7 hr7
  go_wp2_with fail
  refine (HKD.out _ (HR1.out.below hbb7)).mono ?_
  rintro e w8 ⟨v8, rfl, ho8, hb8⟩
  obtain ⟨a8, c8, hv8, hr8, -, -, -⟩ := ho8.form
  subst hv8
  have HR8 := Lib.hid hr8
  have hbb8 := below_then hbb7 hb8 hbb7.size
  clear ho8 hr8
  go_wp2_with fail
  refine (HTB.out _ (HR1.out.below hbb8)).mono ?_
  rintro e w9 ⟨a9, n9, c9, rfl, hr9, -, -, hb9⟩
  have HR9 := Lib.hid hr9
  have hbb9 := below_then hbb8 hb9 hbb8.size
  clear hr9
  go_wp2
  go_ret
  exact ⟨rfl, hbb9⟩
theorem cellTexts_walk (a0 : Option Addr) (n0 c0 : Nat) (t : List UInt8) (a1 : Option Addr) (n1 c1 : Nat) (b : List UInt8) (w : World) (hr0 : Rd w a0 n0 t) (hc0 : n0 ≤ c0) (hr1 : Rd w a1 n1 b) (hc1 : n1 ≤ c1) : Calls Try.prog 16 #[.slice a0 n0 c0, .slice a1 n1 c1] w fun e w' => e = .returned (.bool true) ∧ Below w.heap.size w w' := by
  by_cases hl : 2000 < n0 ∨ 2000 < n1
  · exact ctexts_long a0 n0 c0 t a1 n1 c1 b w hr0 hc0 hr1 hc1 hl
  have hl0 : n0 ≤ 2000 := by omega
  have hl1 : n1 ≤ 2000 := by omega
  by_cases hE : P.txtErr t = 0
  · by_cases hp : P.pcErr b = 0
    · exact ctexts_g_p a0 n0 c0 t a1 n1 c1 b w hr0 hc0 hr1 hc1 hl0 hl1 hE hp
    by_cases hk : P.kdErr b = 0
    · exact ctexts_g_k a0 n0 c0 t a1 n1 c1 b w hr0 hc0 hr1 hc1 hl0 hl1 hE hp hk
    by_cases ht : P.txErr b = 0
    · exact ctexts_g_t a0 n0 c0 t a1 n1 c1 b w hr0 hc0 hr1 hc1 hl0 hl1 hE hp hk ht
    · exact ctexts_g_n a0 n0 c0 t a1 n1 c1 b w hr0 hc0 hr1 hc1 hl0 hl1 hE hp hk ht
  · by_cases hp : P.pcErr b = 0
    · exact ctexts_b_p a0 n0 c0 t a1 n1 c1 b w hr0 hc0 hr1 hc1 hl0 hl1 hE hp
    by_cases hk : P.kdErr b = 0
    · exact ctexts_b_k a0 n0 c0 t a1 n1 c1 b w hr0 hc0 hr1 hc1 hl0 hl1 hE hp hk
    by_cases ht : P.txErr b = 0
    · exact ctexts_b_t a0 n0 c0 t a1 n1 c1 b w hr0 hc0 hr1 hc1 hl0 hl1 hE hp hk ht
    · exact ctexts_b_n a0 n0 c0 t a1 n1 c1 b w hr0 hc0 hr1 hc1 hl0 hl1 hE hp hk ht
end Go.Proofs.Ytpdmhnppibfmkaa
