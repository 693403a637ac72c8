/- The walk of the law ChainBack. -/
import Derived.Test.YtpdmhnppibfmkaaChK
import Derived.Test.YtpdmhnppibfmkaaChn2
namespace Go.Proofs.Ytpdmhnppibfmkaa
set_option linter.unusedVariables false
set_option linter.unusedSimpArgs false
open Go.RowKit

theorem intsT11 : SlT 61 3 1 8 := ⟨Try.underlying61, ⟨.int .i64 0, by kernel_rfl, rfl⟩, by omega⟩
theorem and_1023 (x : Int) (h : -9223372036854775808 ≤ x ∧ x ≤ 9223372036854775807) : ∃ F : Nat, F < 1024 ∧ bits .and .i64 x 1023 = (F : Int) := by
  refine ⟨(BitVec.ofInt 64 x).toNat % 1024, Nat.mod_lt _ (by omega), ?_⟩
  have e : (BitVec.ofInt 64 (1023 : Int)).toNat = 1023 := by decide
  have h1 : (BitVec.ofInt 64 x &&& BitVec.ofInt 64 1023).toNat = (BitVec.ofInt 64 x).toNat % 1024 := by
    rw [BitVec.toNat_and, e, show (1023 : Nat) = 2 ^ 10 - 1 from rfl, Nat.and_two_pow_sub_one_eq_mod]
  have h2 : (BitVec.ofInt 64 x).toNat % 1024 < 1024 := Nat.mod_lt _ (by omega)
  have h3 : bits .and .i64 x 1023 = IntKind.i64.wrap (((BitVec.ofInt 64 x &&& BitVec.ofInt 64 1023).toNat : Nat) : Int) := by
    simp only [bits]
    rfl
  rw [h3, h1, IntKind.wrap_i64]
  omega
set_option maxRecDepth 100000 in
set_option maxHeartbeats 1600000 in
theorem chainBack_walk (a : Option Addr) (n ca : Nat) (b : List UInt8) (fr : Int) (w : World) (hr : Rd w a n b) (hc : n ≤ ca) (hfr : -9223372036854775808 ≤ fr ∧ fr ≤ 9223372036854775807) :
    Calls Try.prog 11 #[.slice a n ca, .int .i64 fr] w fun e w' => e = .returned (.bool true) ∧ Below w.heap.size w w' := by
  have hbl := hr.1
  have HR := Lib.hid hr
  by_cases hg : n ≤ 5000
  case neg =>
    have hq : 5000 < (n : Int) := by omega
    clear hg hr hbl
    go_enter Try.func11, Try.ntmps11
    go_wp2_with fail
    refine (awake11_any _).mono ?_
    rintro e w1 ⟨rfl, hb⟩
    go_wp2
    go_ret
    exact ⟨rfl, hb⟩
  case pos =>
    have c2 : decide (5000 < (n : Int)) = false := decide_eq_false (by omega)
    obtain ⟨F, hF, hFe⟩ := and_1023 fr hfr
    obtain ⟨N, hN⟩ : ∃ N, N = P.needN n := ⟨_, rfl⟩
    have hN2 : N ≤ 22 := by rw [hN]; unfold P.needN; omega
    have HNE := Lib.hid (fun w => need_any (n : Int) w (by omega))
    rw [P.need_nat n, ← hN] at HNE
    have hbx : b.length ≤ 1048576 := by omega
    have hfit := P.lst_fits b (2 + (F : Int)) 3 N (by omega) (by omega) (by omega) (by omega) (by rw [hbl, hN]) (by omega)
    have HFIT := Lib.hid hfit
    have HE := Lib.hid (P.cutErr_zero b _ hfit hbx)
    have HL := Lib.hid (P.cutL_to b _ hfit hbx)
    have HBL := Lib.hid hbl
    have HN := Lib.hid hN
    have HFE := Lib.hid hFe
    clear hr hbl hN hfit hbx hFe
    have hfe := HFE.out
    go_enter Try.func11, Try.ntmps11
    go_wp2_with fail
    refine (awake11_any _).mono ?_
    rintro e w1 ⟨rfl, hb⟩
    go_wp2
    go_loopw [5, 6] (fun v i wr => ∃ j : Nat, j ≤ N ∧ i = .int .i64 j ∧ (∃ a n c, v = .slice a n c) ∧ OV wr w1.heap.size 3 1 v j (ivs (P.lst (2 + (F : Int)) 3 j)) ∧ Below w1.heap.size w1 wr) (fun v i _ => N - (intOf i).toNat)
    case atStart => exact ⟨0, by omega, rfl, ⟨_, _, _, rfl⟩, OV.nil _ _ _ _, Below.refl _ _⟩
    case round =>
      obtain ⟨j, hj, rfl, ⟨av, nv, cv, rfl⟩, ho, hbr⟩ := hrel
      have hsn := P.lst_succ (2 + (F : Int)) 3 j
      obtain rfl : j = nv := ho.len.symm
      have HO := Lib.hid ho
      have HSN := Lib.hid hsn
      clear ho hsn
      by_cases hlt : j < N
      · have hba : Below wr.heap.size wr (wr.alloc (.cells #[.int .i64 (2 + (F : Int) + (j : Int) * 3)] 3)) := (Below.refl _ wr).alloc (Nat.le_refl _) _
        have hrv : RV (wr.alloc (.cells #[.int .i64 (2 + (F : Int) + (j : Int) * 3)] 3)) (some ⟨wr.heap.size, 0, none⟩) 1 1 [.int .i64 (2 + (F : Int) + (j : Int) * 3)] := RV_lit wr 3 1 1 [.int .i64 (2 + (F : Int) + (j : Int) * 3)] rfl (by unfold maxLen; omega)
        have hst : w1.heap.size ≤ (wr.alloc (.cells #[.int .i64 (2 + (F : Int) + (j : Int) * 3)] 3)).heap.size := by have := hbr.size; simp; omega
        have HRV := Lib.hid hrv
        have HBA := Lib.hid hba
        clear hrv hba
        go_wp2_with (first
          | (go_at_call 36; refine (HNE.out _).mono ?_; rintro e w2 ⟨rfl, rfl⟩)
          | (at_builtin; refine wpList_appV intsT11 _ rfl _ _ rfl w1.heap.size _ _ _ rfl (HO.out.below HBA.out) _ _ _ _ rfl HRV.out (fun u hu => by rw [List.mem_singleton] at hu; subst hu; rfl) ?c1 ?c2 hst ?_))
        case c1 => omega
        case c2 => omega
        intro v1 w3 hown1 hg1 hat1
        have hb1 := (below_then hbr HBA.out hbr.size).grown hg1 hst (fun r e => HO.out.base r e)
        have hown2 : OV w3 w1.heap.size 3 1 v1 (j + 1) (ivs (P.lst (2 + (F : Int)) 3 (j + 1))) := by
          rw [HSN.out]
          unfold ivs
          rw [List.map_append]
          exact hown1
        obtain ⟨a1, c1, rfl, -⟩ := hown2.form
        have HO1 := Lib.hid hown2
        clear hown1 hown2 hg1 hat1
        go_wp2
        go_roundw
        case rel => exact ⟨j + 1, by omega, by first | go_num | (simp; done), ⟨_, _, _, rfl⟩, HO1.out, hb1⟩
        case measure => simp [intOf]; omega
      · obtain rfl : j = N := by omega
        have hri : RI wr av j (P.lst (2 + (F : Int)) 3 j) := by
          obtain ⟨a', c', e, hr', -⟩ := HO.out.form
          cases e
          exact hr'
        have hbw := below_then hb hbr hb.size
        have HRI := Lib.hid hri
        have HCUT := Lib.hid (fun w (h1 : Rd w a n b) (h2 : RI w av j (P.lst (2 + (F : Int)) 3 j)) => cut_fun a n ca b av j cv (P.lst (2 + (F : Int)) 3 j) w h1 hc h2)
        rw [HE.out, HL.out, P.lst_length] at HCUT
        obtain ⟨l, hl⟩ : ∃ l, l = P.lst (2 + (F : Int)) 3 j := ⟨_, rfl⟩
        have hnx := fun i => P.lst_next (2 + (F : Int)) 3 j i
        have hgt := fun i h => P.lst_get (2 + (F : Int)) 3 j i h
        have hll := P.lst_length (2 + (F : Int)) 3 j
        have hft := HFIT.out
        rw [← hl] at HCUT HRI hnx hll hft
        have hgt' : ∀ i (h : i < l.length), l[i] = 2 + (F : Int) + (i : Int) * 3 := by
          rw [hl]
          exact hgt
        have HNX := Lib.hid hnx
        have HGT := Lib.hid hgt'
        have HLL := Lib.hid hll
        have HFT := Lib.hid hft
        clear hnx hgt hgt' hll hft hri HL HE HFIT HO HSN
        clear hl
        go_wp2_with (first
          | (go_at_call 36; refine (HNE.out _).mono ?_; rintro e w2 ⟨rfl, rfl⟩)
          | (go_at_call 35; refine (HCUT.out _ (HR.out.below hbw) HRI.out).mono ?_; rintro e w4 ⟨v4, rfl, ho4, hb4⟩; obtain ⟨a4, c4, hv4, hr4, -⟩ := ho4.form; rw [P.cutTo_length] at hv4 hr4; subst hv4; have HR4 := Lib.hid hr4; clear ho4 hr4))
        have hbw4 := below_then hbw hb4 hbw.size
        have HRI4 := Lib.hid (HRI.out.below hb4)
        go_loopw [9, 10] (fun v i wr => ∃ k : Nat, k ≤ j ∧ i = .int .i64 k ∧ (∃ a n c, v = .slice a n c) ∧ OB wr w4.heap.size v (b.take (244 * k)) ∧ Below w4.heap.size w4 wr) (fun v i _ => j - (intOf i).toNat)
        case atStart => exact ⟨0, by omega, rfl, ⟨_, _, _, rfl⟩, by simpa using OB.nil _ _, Below.refl _ _⟩
        case round =>
          obtain ⟨k, hk, rfl, ⟨ao, no, co, rfl⟩, hoo, hbk⟩ := hrel
          by_cases hkj : k < j
          · obtain ⟨p4, ba, ka, ck, rfl, hcell, hrd, hkc⟩ := (HR4.out.below hbk).2.2 k (by rw [P.cutTo_length]; exact hkj)
            rw [P.cutTo_get] at hrd
            obtain ⟨g1, g2, g3⟩ := P.cut_part b l HFT.out k (by rw [HLL.out]; exact hkj)
            have hpt := fun w (h : Rd w ba ka (P.cutPage b l k)) => part_fun ba ka ck _ w h hkc
            unfold PartEnd at hpt
            rw [g1, g2, g3] at hpt
            have hpl := P.part_len b k
            rw [HBL.out] at hpl
            have h244 : 244 * k < n := by have h := HN.out; unfold P.needN at h; omega
            have htk := P.part_take b k
            have htl : (b.take (244 * k)).length ≤ 5000 := by rw [List.length_take, HBL.out]; omega
            obtain ⟨X, hX⟩ : ∃ X, X = P.nextI l k := ⟨_, rfl⟩
            rw [← hX] at hpt
            have hxx : (X != X) = false := by simp
            have hX2 := HNX.out k
            rw [← hX] at hX2
            generalize P.cutPage b l k = CP at *
            generalize P.part b k = PT at *
            obtain ⟨T1, hT1⟩ : ∃ T, b.take (244 * (k + 1)) = T := ⟨_, rfl⟩
            rw [hT1] at htk
            generalize b.take (244 * k) = T0 at *
            have HPT := Lib.hid hpt
            have HRD := Lib.hid hrd
            have HTK := Lib.hid htk
            have HT1 := Lib.hid hT1
            have HOO := Lib.hid hoo
            have HPL := Lib.hid hpl
            have HX2 := Lib.hid hX2
            have hno := hoo.len
            have HNO := Lib.hid hno
            have hkn : 1 ≤ PT.length := by omega
            have hkn2 : PT.length ≤ 244 := by omega
            have hc4 := hcell
            clear hpt hrd htk hT1 hoo hpl hX2 hX g1 g2 g3 hno
            by_cases hk1 : k + 1 < j
            case pos =>
              have hlk : k + 1 < l.length := by rw [HLL.out]; exact hk1
              obtain ⟨pp, rfl, hcl⟩ := (HRI4.out.below hbk).at (k + 1) hlk
              rw [show l[k + 1]'hlk = X by (have h1 := HGT.out (k + 1) hlk; have h2 := HX2.out; rw [if_pos hk1] at h2; rw [h1, h2]; omega), add_lit pp (k + 1) (by omega)] at hcl
              have n1 : (k : Int) + 1 < (j : Int) := by omega
              have NX := Lib.hid (fun w' (h : Below wr.heap.size wr w') => (h.cell (lt_of_cell hcl)).trans hcl)
              go_wp2_with (first
                | (go_at_call 40; refine (HPT.out _ HRD.out).mono ?_; rintro e w5 ⟨a5, n5, c5, rfl, hr5, -, -, hb5⟩; obtain rfl : n5 = PT.length := hr5.1.symm; have hb5' := below_then hbk hb5 hbk.size; have HR5 := Lib.hid hr5; have hcl9 := NX.out _ hb5; clear hr5)
                | (at_builtin; refine wpList_app _ rfl _ _ rfl w4.heap.size _ _ rfl (HOO.out.below hb5) _ _ _ _ rfl HR5.out ?c1 hb5'.size ?_))
              case c1 => omega
              intro v6 w6 ho6 hg6 hat6
              have hb6 : Below w4.heap.size w4 w6 := (HOO.out.below hb5).grown hb5' hb5'.size hg6
              rw [← HTK.out] at ho6
              obtain ⟨a6, c6, hv6, -, -, -, -⟩ := ho6.form
              subst hv6
              have HO6 := Lib.hid ho6
              clear ho6 hg6 hat6
              go_wp2
              go_roundw
              case rel => exact ⟨k + 1, by omega, by first | go_num | (simp; done), ⟨_, _, _, rfl⟩, by rw [HT1.out]; exact HO6.out, hb6⟩
              case measure => simp [intOf]; omega
            case neg =>
              obtain rfl : X = 0 := by rw [HX2.out, if_neg hk1]
              have n1 : ¬ ((k : Int) + 1 < (j : Int)) := by omega
              have NX : Hid (∀ w', Below wr.heap.size wr w' → True) := Lib.hid (fun _ _ => trivial)
              go_wp2_with (first
                | (go_at_call 40; refine (HPT.out _ HRD.out).mono ?_; rintro e w5 ⟨a5, n5, c5, rfl, hr5, -, -, hb5⟩; obtain rfl : n5 = PT.length := hr5.1.symm; have hb5' := below_then hbk hb5 hbk.size; have HR5 := Lib.hid hr5; have hcl9 := NX.out _ hb5; clear hr5)
                | (at_builtin; refine wpList_app _ rfl _ _ rfl w4.heap.size _ _ rfl (HOO.out.below hb5) _ _ _ _ rfl HR5.out ?c1 hb5'.size ?_))
              case c1 => omega
              intro v6 w6 ho6 hg6 hat6
              have hb6 : Below w4.heap.size w4 w6 := (HOO.out.below hb5).grown hb5' hb5'.size hg6
              rw [← HTK.out] at ho6
              obtain ⟨a6, c6, hv6, -, -, -, -⟩ := ho6.form
              subst hv6
              have HO6 := Lib.hid ho6
              clear ho6 hg6 hat6
              go_wp2
              go_roundw
              case rel => exact ⟨k + 1, by omega, by first | go_num | (simp; done), ⟨_, _, _, rfl⟩, by rw [HT1.out]; exact HO6.out, hb6⟩
              case measure => simp [intOf]; omega
          · obtain rfl : k = j := by omega
            have e : b.take (244 * k) = b := List.take_of_length_le (by rw [HBL.out, HN.out]; unfold P.needN; omega)
            rw [e] at hoo
            obtain ⟨ao2, co2, e2, hrr, -⟩ := hoo.form
            cases e2
            rw [HBL.out] at hrr
            have hbz := below_then hbw4 hbk hbw4.size
            have hle := HBL.out
            have hno : b.length = n := hle
            have HRR := Lib.hid hrr
            clear hoo hrr e
            rw [hle]
            go_wp2_with fail
            refine (same_refl _ _ n _ _ b _ HRR.out (HR.out.below hbz)).mono ?_
            rintro e w9 ⟨rfl, hb9⟩
            go_wp2
            go_ret
            exact ⟨rfl, below_then hbz hb9 hbz.size⟩
end Go.Proofs.Ytpdmhnppibfmkaa
