/- The walk of the law ChainOne. Printed by gen_lawz4.py. -/
import Derived.Test.YtpdmhnppibfmkaaLawZ4a
namespace Go.Proofs.Ytpdmhnppibfmkaa
set_option linter.unusedVariables false
set_option linter.unusedSimpArgs false
open Go.RowKit

set_option maxRecDepth 100000 in
set_option maxHeartbeats 3200000 in
theorem chainOne_lt (a0 : Option Addr) (n0 c0 : Nat) (A : List UInt8) (a1 : Option Addr) (n1 c1 : Nat) (B : List UInt8) (bit : Int) (w : World) (hr0 : Rd w a0 n0 A) (hc0 : n0 ≤ c0) (hr1 : Rd w a1 n1 B) (hc1 : n1 ≤ c1) (hbit : -9223372036854775808 ≤ bit ∧ bit ≤ 9223372036854775807) (g0 : 1 ≤ n0) (g1 : 1 ≤ n1) (g2 : n0 ≤ 2000) (g3 : n1 ≤ 2000) (hx : n0 < n1) : Calls Try.prog 12 #[.slice a0 n0 c0, .slice a1 n1 c1, .int .i64 bit] w fun e w' => e = .returned (.bool true) ∧ Below w.heap.size w w' := by
  have hla := hr0.1
  have hlb := hr1.1
  obtain ⟨na, hna⟩ : ∃ k, k = P.needN n0 := ⟨_, rfl⟩
  obtain ⟨nb, hnb⟩ : ∃ k, k = P.needN n1 := ⟨_, rfl⟩
  have na1 : 1 ≤ na := by rw [hna]; unfold P.needN; omega
  have na2 : na ≤ 9 := by rw [hna]; unfold P.needN; omega
  have nb1 : 1 ≤ nb := by rw [hnb]; unfold P.needN; omega
  have nb2 : nb ≤ 9 := by rw [hnb]; unfold P.needN; omega
  have hab1 : na ≤ nb := by rw [hna, hnb]; unfold P.needN; omega
  have hab2 : nb ≤ nb := by rw [hnb]; exact Nat.le_refl _
  have HNA := Lib.hid (fun w => need_any (n0 : Int) w (by omega))
  rw [P.need_nat n0, ← hna] at HNA
  have HNB := Lib.hid (fun w => need_any (n1 : Int) w (by omega))
  rw [P.need_nat n1, ← hnb] at HNB
  have hfa := P.lst_fits A 5 1 na (by omega) (by omega) (by omega) (by omega) (by rw [hla, hna]) (by omega)
  have hfb := P.lst_fits B 5 1 nb (by omega) (by omega) (by omega) (by omega) (by rw [hlb, hnb]) (by omega)
  have hea := P.cutErr_zero A _ hfa (by omega)
  have heb := P.cutErr_zero B _ hfb (by omega)
  have hca := P.cutL_to A _ hfa (by omega)
  have hcb := P.cutL_to B _ hfb (by omega)
  have hdec := cut_dec A B _ _ hfa hfb (fun h => by have h' : na = nb := (by have e := congrArg List.length h; rw [hla, hlb] at e; rw [hna, hnb]; try rw [e]); rw [h'])
  rw [P.lst_length] at hca hcb
  rw [P.lst_length, P.lst_length] at hdec
  have hcp := P.cut_part A (P.lst 5 1 na) hfa (na - 1) (by rw [P.lst_length]; omega)
  have hLA := P.cutTo_length A (P.lst 5 1 na) na
  have hLB := P.cutTo_length B (P.lst 5 1 nb) nb
  have hgA := fun h => P.cutTo_get A (P.lst 5 1 na) na (na - 1) h
  have HCA := Lib.hid (fun p d w (h1 : Rd w a0 n0 A) (h2 : RI w p na (P.lst 5 1 na)) => cut_fun a0 n0 c0 A p na d (P.lst 5 1 na) w h1 hc0 h2)
  have HCB := Lib.hid (fun p d w (h1 : Rd w a1 n1 B) (h2 : RI w p nb (P.lst 5 1 nb)) => cut_fun a1 n1 c1 B p nb d (P.lst 5 1 nb) w h1 hc1 h2)
  rw [hea, hca] at HCA
  rw [heb, hcb] at HCB
  obtain ⟨LA, hLAe⟩ : ∃ L, L = P.cutTo A (P.lst 5 1 na) na := ⟨_, rfl⟩
  obtain ⟨LB, hLBe⟩ : ∃ L, L = P.cutTo B (P.lst 5 1 nb) nb := ⟨_, rfl⟩
  have hgA' : ∀ h : na - 1 < LA.length, LA[na - 1] = P.cutPage A (P.lst 5 1 na) (na - 1) := by rw [hLAe]; exact hgA
  rw [← hLAe] at hdec hLA HCA
  rw [← hLBe] at hdec hLB HCB
  obtain ⟨K, hK⟩ : ∃ K, K = P.cutPage A (P.lst 5 1 na) (na - 1) := ⟨_, rfl⟩
  rw [← hK] at hcp hgA'
  have hop := (P.ptErr_zero hcp.1).1
  have hKl := P.openErr_len _ hop
  have hflip := fun i x hi hx => P.ptErr_flip K i x hi hx hop
  obtain ⟨D, hD⟩ : ∃ D, D = decide (A = B) := ⟨_, rfl⟩
  rw [← hD] at hdec
  have HDEC := Lib.hid hdec
  have HD := Lib.hid hD
  have HGA := Lib.hid hgA'
  have HLA := Lib.hid hLA
  have HLB := Lib.hid hLB
  have HKl := Lib.hid hKl
  have HFL := Lib.hid hflip
  have HR0 := Lib.hid hr0
  have HR1 := Lib.hid hr1
  obtain ⟨ka, hka⟩ : ∃ k, na - 1 = k := ⟨_, rfl⟩
  have hka2 : (na : Int) - 1 = (ka : Int) := by omega
  have HKA := Lib.hid hka
  have HKA2 := Lib.hid hka2
  have q0 : ((n0 : Int) == 0) = false := by simp; omega
  have q1 : ((n1 : Int) == 0) = false := by simp; omega
  have q2 : decide (2000 < (n0 : Int)) = false := decide_eq_false (by omega)
  have q3 : decide (2000 < (n1 : Int)) = false := decide_eq_false (by omega)
  have q4 : (D != D) = false := by simp
  have t1 : -2048 < bit.tmod 2048 := by
    have := Int.lt_tmod_of_pos bit (show (0 : Int) < 2048 by omega)
    omega
  have t2 : bit.tmod 2048 < 2048 := Int.tmod_lt_of_pos bit (by omega)
  have x1 : (n0 : Int) < (n1 : Int) := by omega
  have x2 : ¬ (n1 : Int) < (n0 : Int) := by omega
  clear hr0 hr1 hla hlb hna hnb hfa hfb hea heb hca hcb hdec hLA hLB hgA hgA' hLAe hLBe hK hcp hop hKl hflip hD hka hka2
  go_enter Try.func12, Try.ntmps12
  go_wp2_with fail
  refine (awake11_any _).mono ?_
  rintro e w1 ⟨rfl, hb⟩
  go_wp2
  go_loopw [7, 8] (fun v i wr => ∃ j : Nat, j ≤ nb ∧ i = .int .i64 j ∧ (∃ a n c, v = .slice a n c) ∧ OV wr w1.heap.size 3 1 v j (ivs (P.lst 5 1 j)) ∧ Below w1.heap.size w1 wr) (fun v i _ => nb - (intOf i).toNat)
  case atStart => exact ⟨0, by omega, rfl, ⟨_, _, _, rfl⟩, OV.nil _ _ _ _, Below.refl _ _⟩
  case round =>
    obtain ⟨j, hj, rfl, ⟨av, nv, cv, rfl⟩, ho, hbr⟩ := hrel
    have hsn := P.lst_succ 5 1 j
    rw [Int.mul_one] at hsn
    obtain rfl : j = nv := ho.len.symm
    have HO := Lib.hid ho
    have HSN := Lib.hid hsn
    clear ho hsn
    by_cases hlt : j < nb
    · have hba : Below wr.heap.size wr (wr.alloc (.cells #[.int .i64 (5 + (j : Int))] 3)) := (Below.refl _ wr).alloc (Nat.le_refl _) _
      have hrv : RV (wr.alloc (.cells #[.int .i64 (5 + (j : Int))] 3)) (some ⟨wr.heap.size, 0, none⟩) 1 1 [.int .i64 (5 + (j : Int))] := RV_lit wr 3 1 1 [.int .i64 (5 + (j : Int))] rfl (by unfold maxLen; omega)
      have hst : w1.heap.size ≤ (wr.alloc (.cells #[.int .i64 (5 + (j : Int))] 3)).heap.size := by have := hbr.size; simp; omega
      have HRV := Lib.hid hrv
      have HBA := Lib.hid hba
      clear hrv hba
      go_wp2_with (first
        | (go_at_call 36; refine (HNB.out _).mono ?_; rintro e w2 ⟨rfl, rfl⟩)
        | (at_builtin; refine wpList_appV intsT11 _ rfl _ _ rfl w1.heap.size _ _ _ rfl (HO.out.below HBA.out) _ _ _ _ rfl HRV.out (fun u hu => by rw [List.mem_singleton] at hu; subst hu; rfl) ?c1 ?c2 hst ?_))
      case c1 => omega
      case c2 => omega
      intro v1 w3 hown1 hg1 hat1
      have hb1 := (below_then hbr HBA.out hbr.size).grown hg1 hst (fun r e => HO.out.base r e)
      have hown2 : OV w3 w1.heap.size 3 1 v1 (j + 1) (ivs (P.lst 5 1 (j + 1))) := by
        rw [HSN.out]
        unfold ivs
        rw [List.map_append]
        exact hown1
      obtain ⟨a1', c1', rfl, -⟩ := hown2.form
      have HO1 := Lib.hid hown2
      clear hown1 hown2 hg1 hat1
      go_wp2
      go_roundw
      case rel => exact ⟨j + 1, by omega, by first | go_num | (simp; done), ⟨_, _, _, rfl⟩, HO1.out, hb1⟩
      case measure => simp [intOf]; omega
    · have hjN : j = nb := by omega
      obtain ⟨g, cv', hv', -, -, hri0, hcv⟩ := HO.out.pos (by omega)
      cases hv'
      have hri : RI wr (some ⟨g, 0, none⟩) j (P.lst 5 1 j) := hri0
      have hra := hri.take na (by omega)
      have hrb := hri.take nb (by omega)
      rw [P.lst_take 5 1 j na (by omega)] at hra
      rw [P.lst_take 5 1 j nb (by omega)] at hrb
      have hbw := below_then hb hbr hb.size
      have HRA := Lib.hid hra
      have HRB := Lib.hid hrb
      have z1 : (na : Int) ≤ (cv : Int) := by omega
      have z2 : (nb : Int) ≤ (cv : Int) := by omega
      have z3 : (0 : Int) ≤ (na : Int) := by omega
      have z4 : (0 : Int) ≤ (nb : Int) := by omega
      clear hri hri0 hra hrb
      go_wp2_with (go_at_call 36; first | (refine (HNB.out _).mono ?_; rintro e w2 ⟨rfl, rfl⟩) | (refine (HNA.out _).mono ?_; rintro e w2 ⟨rfl, rfl⟩))
      refine (HCA.out _ _ _ (HR0.out.below hbw) HRA.out).mono ?_
      rintro e w3 ⟨v3, rfl, ho3, hb3⟩
      have hbw3 := below_then hbw hb3 hbw.size
      obtain ⟨a3, c3, hv3, hr3, -⟩ := ho3.form
      rw [HLA.out] at hv3 hr3
      subst hv3
      have HR3 := Lib.hid hr3
      have HO3 := Lib.hid ho3
      have HRB3 := Lib.hid (HRB.out.below hb3)
      clear ho3 hr3
      go_wp2_with fail
      refine (HNB.out _).mono ?_
      rintro e w4 ⟨rfl, rfl⟩
      go_wp2_with fail
      refine (HCB.out _ _ _ (HR1.out.below hbw3) HRB3.out).mono ?_
      rintro e w5 ⟨v5, rfl, ho5, hb5⟩
      have hbw5 := below_then hbw3 hb5 hbw3.size
      obtain ⟨a5, c5, hv5, hr5, -⟩ := ho5.form
      rw [HLB.out] at hv5 hr5
      subst hv5
      have hpg := pages_any a3 a5 na nb c3 c5 LA LB w5 (HR3.out.below hb5) hr5
      rw [HDEC.out] at hpg
      have HPG := Lib.hid hpg
      clear ho5 hr5 hpg
      go_wp2_with fail
      refine HPG.out.mono ?_
      rintro e w6 ⟨rfl, hb6⟩
      have hbw6 := below_then hbw5 hb6 hbw5.size
      have hsm := same_b a0 a1 n0 n1 c0 c1 A B w6 (HR0.out.below hbw6) (HR1.out.below hbw6)
      rw [← HD.out] at hsm
      have HSM := Lib.hid hsm
      clear hsm
      go_wp2_with fail
      refine HSM.out.mono ?_
      rintro e w7 ⟨rfl, hb7⟩
      have hbw7 := below_then hbw6 hb7 hbw6.size
      have ho7 := ((HO3.out.below hb5).below hb6).below hb7
      have hki : na - 1 < LA.length := by rw [HLA.out]; omega
      obtain ⟨p7, u7, rfl, hc7, hob7⟩ := ho7.at (na - 1) hki
      rw [HGA.out hki] at hob7
      rw [HKA.out] at hc7
      obtain ⟨gb, p3, rfl, hgB, hgl, hr8, hcap⟩ := hob7.pos (by rw [HKl.out]; omega)
      rw [HKl.out] at hc7 hr8 hcap hob7
      have hka2 := HKA2.out
      have k1 : (0 : Int) ≤ (ka : Int) := by omega
      have k2 : (ka : Int) < (na : Int) := by have := HKA2.out; omega
      obtain ⟨Bt, hBt⟩ : ∃ Bt : Nat, (bit.tmod 2048 + 2048) % 2048 = (Bt : Int) := Int.eq_ofNat_of_zero_le (Int.emod_nonneg _ (by omega))
      have hB2 : Bt < 2048 := by
        have : (bit.tmod 2048 + 2048) % 2048 < 2048 := Int.emod_lt_of_pos _ (by omega)
        omega
      have hi8 : Bt / 8 < K.length := by rw [HKl.out]; omega
      have hcell : w7.cell? ⟨gb, Bt / 8, none⟩ = some (.int .u8 ((K[Bt / 8]'hi8).toNat : Int)) := hob7.cell (Bt / 8) hi8
      have hfree := hob7.free (Bt / 8)
      have HOB := Lib.hid hob7
      have hne := flip_ne (K[Bt / 8]'hi8) (Bt % 8) (Nat.mod_lt _ (by omega))
      have hfl := flip_bits (K[Bt / 8]'hi8) (Bt % 8) (Nat.mod_lt _ (by omega))
      have hwB : w.heap.size ≤ gb := by have := hbw.size; omega
      have HNEQ := Lib.hid hne
      have HFB := Lib.hid hfl
      clear hob7 hr8 ho7 hne hfl hki
      go_wp2_with fail
      rw [HFB.out]
      obtain ⟨x, hx⟩ : ∃ x, x = flip (K[Bt / 8]'hi8) (Bt % 8) := ⟨_, rfl⟩
      have hne := HNEQ.out
      rw [← hx] at hne ⊢
      have hst := HOB.out.stored (Bt / 8) x
      have hE5 := HFL.out (Bt / 8) x hi8 hne
      obtain ⟨K', hK'⟩ : ∃ K', K' = K.set (Bt / 8) x := ⟨_, rfl⟩
      rw [← hK'] at hst hE5
      have hr9 : Rd (w7.setCell ⟨gb, Bt / 8, none⟩ (.int .u8 (x.toNat : Int))) (some ⟨gb, 0, none⟩) 256 K' := by
        obtain ⟨a', c', hv', hr', -⟩ := hst.form
        simp only [Value.slice.injEq] at hv'
        rw [← hv'.1, ← hv'.2.1] at hr'
        exact hr'
      have hbS : Below w.heap.size w (w7.setCell ⟨gb, Bt / 8, none⟩ (.int .u8 (x.toNat : Int))) := hbw7.setCell (by exact hwB) _
      generalize w7.setCell ⟨gb, Bt / 8, none⟩ (.int .u8 (x.toNat : Int)) = w8 at *
      have hpt := part_fun _ 256 p3 K' w8 hr9 hcap
      unfold PartEnd at hpt
      rw [hE5] at hpt
      have HPT := Lib.hid hpt
      clear hpt hst hr9 hcell hfree hne hx hK' hE5
      refine HPT.out.mono ?_
      rintro e w9 ⟨a9, n9, c9, rfl, -, -, -, hb9⟩
      go_wp2
      go_ret
      exact ⟨rfl, below_then hbS hb9 hbS.size⟩
end Go.Proofs.Ytpdmhnppibfmkaa
