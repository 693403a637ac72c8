/- The walk of chapter 11: the reference's Cut, where the pages are fit. -/
import Derived.Test.YtpdmhnppibfmkaaChH
namespace Go.Proofs.Ytpdmhnppibfmkaa
set_option linter.unusedVariables false
set_option linter.unusedSimpArgs false
open Go.RowKit

theorem OL_app {w8 w9 : World} {n k : Nat} {v v9 vc : Value} {L0 : List (List UInt8)} {CP : List UInt8} {vs : List Value} (hv : OV w8 n 24 1 v k vs) (hvl : vs.length = k) (hcl : L0.length = k)
    (hall : ∀ (i : Nat) (u : Value) (c : List UInt8), vs[i]? = some u → L0[i]? = some c → OB w8 n u c) (hc : OB w8 n vc CP) (ho9 : OV w9 n 24 1 v9 (k + 1) (vs ++ [vc])) (hg9 : w8.grownBy w9 v.ownBlock) : OL w9 n v9 (L0 ++ [CP]) := by
  have hrc : ∀ r, v.ownBlock = some r → ∃ cur, w8.heap[r]? = some (.cells cur 24 (0, 0)) := hv.cells
  have ob : ∀ u c, OB w8 n u c → OB w9 n u c := fun u c h =>
    h.kept' hg9 (fun r e => .inr fun cur hcur => by obtain ⟨cur', hc⟩ := hrc r e; rw [hc] at hcur; simp at hcur)
  refine ⟨vs ++ [vc], by rw [List.length_append, hcl]; exact ho9, by simp [hvl, hcl], ?_⟩
  intro i u c hu hcc
  rcases Nat.lt_or_ge i k with hi | hi
  · rw [List.getElem?_append_left (by omega)] at hu hcc
    exact ob _ _ (hall i u c hu hcc)
  · rw [List.getElem?_append_right (by omega)] at hu hcc
    rw [hvl] at hu
    rw [hcl] at hcc
    rcases hj : i - k with _ | j
    · rw [hj] at hu hcc
      simp at hu hcc
      subst hu hcc
      exact ob _ _ hc
    · rw [hj] at hu
      simp at hu
set_option maxRecDepth 100000 in
set_option maxHeartbeats 6400000 in
theorem rcut_fit (a : Option Addr) (len cap : Nat) (b : List UInt8) (p : Option Addr) (m d : Nat) (l : List Int) (w : World) (hr : Rd w a len b) (hc : len ≤ cap) (hl : RI w p m l) (hf : P.fits b l = true) :
    Calls Try.prog 37 #[.slice a len cap, .slice p m d] w fun e w' => ∃ v, e = .returned (.tuple #[v, .int .i64 (P.cutErr b l)]) ∧ OL w' w.heap.size v (P.cutL b l) ∧ Below w.heap.size w w' := by
  have hbl := hr.1
  have hlm := hl.len
  have hlx := hr.2.1
  have hmx := hl.2.1
  unfold maxLen at hlx hmx
  have hND := P.need_nat len
  have HNE := fun w => rneed_any (len : Int) w (by omega)
  rw [hND] at HNE
  have hFi := (P.fits_iff b l).1 hf
  rw [hbl] at hFi
  obtain ⟨hF1, hF2, hF3⟩ := hFi
  have hm : m = P.needN len := by omega
  rw [← hm] at HNE
  have HNE := Lib.hid HNE
  have hq : ((m : Int) != (m : Int)) = false := by simp
  have HFT := Lib.hid hf
  have HL := Lib.hid hl
  have HR := Lib.hid hr
  have HLM := Lib.hid hlm
  have HM := Lib.hid hm
  have HBL := Lib.hid hbl
  have HF2 := Lib.hid hF2
  have HF3 := Lib.hid hF3
  have hE1 : 1048576 < len → P.cutErr b l = 3 ∧ P.cutL b l = [] := fun h => by
    have e1 : P.cutErr b l = 3 := by unfold P.cutErr; rw [hf, if_pos rfl, if_pos (by omega)]
    exact ⟨e1, by unfold P.cutL; rw [if_neg (by omega)]⟩
  have hE2 : ¬ 1048576 < len → P.cutErr b l = 0 ∧ P.cutL b l = P.cutTo b l l.length := fun h => by
    have e1 : P.cutErr b l = 0 := by unfold P.cutErr; rw [hf, if_pos rfl, if_neg (by omega)]
    exact ⟨e1, by unfold P.cutL; rw [if_pos e1]⟩
  have HE1 := Lib.hid hE1
  have HE2 := Lib.hid hE2
  generalize P.cutErr b l = E at *
  generalize P.cutL b l = LL at *
  clear hr hl hf hbl hlm hND hF1 hF2 hF3 hm hE1 hE2
  go_enter Try.func37, Try.ntmps37
  go_wp2_with fail
  refine (HNE.out _).mono ?_
  rintro e w1 ⟨rfl, rfl⟩
  go_wp2
  go_loopw [6] (fun i wr => ∃ j : Nat, j ≤ m ∧ i = .int .i64 j ∧ Below w1.heap.size w1 wr) (fun i _ => m - (intOf i).toNat)
  case atStart => exact ⟨0, by omega, rfl, Below.refl _ _⟩
  case round =>
    obtain ⟨j, hj, rfl, hbr⟩ := hrel
    by_cases hlt : j < m
    · have hjl : j < l.length := by have := HLM.out; omega
      obtain ⟨q, rfl, hq0⟩ := (HL.out.below hbr).at j hjl
      have hqa := fun w' (hb : Below w1.heap.size w1 w') k (hk : k < l.length) => show w'.cell? (q.add k) = some (.int .i64 l[k]) by
        obtain ⟨p', e, h⟩ := (HL.out.below hb).at k hk
        cases e
        exact h
      have HQA := Lib.hid hqa
      obtain ⟨hx1, hx2⟩ := HF2.out l[j] (List.getElem_mem hjl)
      have hne := fun k hk => nodup_ne l HF3.out j k hk hjl
      obtain ⟨x, hx⟩ : ∃ x, x = l[j] := ⟨_, rfl⟩
      rw [← hx] at hq0 hne hx1 hx2
      have HNEQ := Lib.hid hne
      have HX := Lib.hid hx
      clear hne hqa hx
      go_wp2
      go_loopw [7] (fun i ws => ∃ k : Nat, k ≤ j ∧ i = .int .i64 k ∧ Below w1.heap.size w1 ws) (fun i _ => j - (intOf i).toNat)
      case atStart => exact ⟨0, by omega, rfl, hbr⟩
      case round =>
        obtain ⟨k, hk, rfl, hbs⟩ := hrel
        by_cases hkj : k < j
        · have hkl : k < l.length := by omega
          have hk0 := HQA.out _ hbs k hkl
          have hj0 := HQA.out _ hbs j hjl
          have hxy := HNEQ.out k hkj
          rw [← HX.out] at hj0
          obtain ⟨y, hy⟩ : ∃ y, y = l[k] := ⟨_, rfl⟩
          rw [← hy] at hk0 hxy
          have hbd : Below w1.heap.size w1 wr.drew := ⟨hbs.os, hbs.tape, hbs.output, hbs.size, hbs.block⟩
          have ht : (y == x) = false := by simp [hxy]
          clear hxy hy
          go_wp2
          go_quiet (fail)
          go_wp2
          exact ⟨⟨k + 1, by omega, by go_num, below_drewN hbs _⟩, by simp [intOf]; omega⟩
        · obtain rfl : k = j := by omega
          go_wp2
          exact ⟨⟨k + 1, by omega, by first | go_num | (simp; done), hbs⟩, by simp [intOf]; omega⟩
    · by_cases hbig : 1048576 < len
      · obtain ⟨z1, z2⟩ := HE1.out hbig
        have hbi : (1048576 : Int) < (len : Int) := by omega
        go_wp2
        go_ret2
        exact ⟨_, by rw [z1]; rfl, by rw [z2]; exact OL.nil _ _, hbr⟩
      · obtain ⟨z1, z2⟩ := HE2.out hbig
        have hbi : decide (1048576 < (len : Int)) = false := decide_eq_false (by omega)
        have HZ1 := Lib.hid z1
        have HZ2 := Lib.hid z2
        clear z1 z2
        go_wp2
        go_loopw [8, 9] (fun v i wr => ∃ k : Nat, k ≤ m ∧ i = .int .i64 k ∧ (∃ a n c, v = .slice a n c) ∧ OL wr w1.heap.size v (P.cutTo b l k) ∧ Below w1.heap.size w1 wr) (fun v i _ => m - (intOf i).toNat)
        case atStart => exact ⟨0, by omega, rfl, ⟨_, _, _, rfl⟩, OL.nil _ _, hbr⟩
        case round =>
          obtain ⟨k, hk, rfl, ⟨av, nv, cv, rfl⟩, hol, hbs⟩ := hrel
          clear hbr
          by_cases hkm : k < m
          · have h244 : 244 * k < len := by have h := HM.out; unfold P.needN at h; omega
            have hm2 : m ≤ 4300 := by have h := HM.out; unfold P.needN at h; omega
            obtain ⟨q0, rfl, -⟩ := (HR.out.below hbs).at 0 (by have := HBL.out; omega)
            have hlB := HBL.out
            have hpl := P.part_len b k
            rw [hlB] at hpl
            have hsl := P.seal_cut b l k (by omega)
            have hnx := P.nextI_ok b l HFT.out k
            rw [HLM.out] at hnx
            have hcs := P.cutTo_succ b l k
            have hcl := P.cutTo_length b l k
            have hT0 : Rd wr (some (q0.add (244 * k))) (min 244 (len - 244 * k)) (P.part b k) := by
              have h := ((HR.out.below hbs).drop (244 * k)).take (min 244 (len - 244 * k)) (by omega)
              have e : P.part b k = (b.drop (244 * k)).take (min 244 (len - 244 * k)) := by
                unfold P.part
                rw [← hlB, List.take_eq_take_iff]
                simp
              rw [e]
              exact h
            have hnv : P.nextI l k = if h : k + 1 < l.length then l[k + 1] else 0 := by
              unfold P.nextI
              split
              · rename_i h; simp [List.getD, h]
              · rename_i h; simp [List.getD, h]
            have hL1 := HL.out.below hbs
            obtain ⟨vs, hv, hvl, hall⟩ := hol
            rw [hcl] at hv hvl
            obtain rfl : k = nv := hv.len.symm
            have hK : P.cutPage b l k = P.sealB 5 0 ((P.part b k).length : Nat) (P.cutBody b l k) := by
              unfold P.cutPage P.sealB
              rw [if_pos hsl]
              simp
            have hbody : P.cutBody b l k = P.be 4 (P.nextI l k).toNat ++ P.part b k := rfl
            have hbl : (P.cutBody b l k).length = 4 + (P.part b k).length := by rw [hbody, List.length_append, P.be_length]
            generalize P.cutBody b l k = CB at *
            generalize P.cutPage b l k = CP at *
            generalize P.part b k = PT at *
            generalize P.nextI l k = X at *
            obtain ⟨L1, hle⟩ : ∃ L, P.cutTo b l (k + 1) = L := ⟨_, rfl⟩
            rw [hle] at hcs
            have HLE := Lib.hid hle
            clear hle
            generalize P.cutTo b l k = L0 at *
            obtain ⟨A, hA⟩ : ∃ A, A = 244 * k := ⟨_, rfl⟩
            obtain ⟨B, hB⟩ : ∃ B, B = 244 * (k + 1) := ⟨_, rfl⟩
            rw [← hA] at hpl hT0
            have a1 : (k : Int) * 244 = (A : Int) := by omega
            have a2 : ((k : Int) + 1) * 244 = (B : Int) := by omega
            have a3 : (0 : Int) ≤ (A : Int) := by omega
            have a5 : ¬ cap = A := by omega
            have a6 : A < len := by omega
            have aBA : B = A + 244 := by omega
            have aB0 : A ≤ 1048576 := by omega
            clear hA hB hlB
            by_cases hBl : B < len
            case pos =>
              obtain ⟨ln, hln⟩ : ∃ ln, ln = 244 := ⟨_, rfl⟩
              rw [show min 244 (len - A) = ln by omega] at hpl hT0
              have hT := hT0
              have b1 : (B : Int) < (len : Int) := by omega
              have b2 : (B : Int) ≤ (cap : Int) := by omega
              have b3 : (A : Int) ≤ (B : Int) := by omega
              have b4 : B - A = ln := by omega
              have hln2 : ln ≤ 244 := by omega
              clear hT0 hln aBA
              have hX0 : 0 ≤ X := by omega
              have hX1 : X < 4096 := by omega
              have hYl := P.be_length 4 X.toNat
              obtain ⟨Y, hY⟩ : ∃ Y, P.be 4 X.toNat = Y := ⟨_, rfl⟩
              rw [hY] at hbody hYl
              have hput : ∀ w, Calls Try.prog 55 #[.int .i64 4, .int .i64 X] w fun e w' => ∃ v, e = .returned v ∧ OB w' w.heap.size v Y ∧ Below w.heap.size w w' := fun w => by
                rw [← hY]
                exact refput_any 4 X w (by omega) (by omega) hX0 (by omega) (by simp; omega)
              have HPUT := Lib.hid hput
              have HYL := Lib.hid hYl
              have HV := Lib.hid hv
              have HVL := Lib.hid hvl
              have HALL := Lib.hid hall
              have HCL := Lib.hid hcl
              have HCS := Lib.hid hcs
              have HT := Lib.hid hT
              have HPL := Lib.hid hpl
              have HSL := Lib.hid hsl
              have HBL2 := Lib.hid hbl
              have HK := Lib.hid hK
              have HBODY := Lib.hid hbody
              have hkl : k + 1 < l.length ↔ k + 1 < m := by rw [HLM.out]
              have HKL := Lib.hid hkl
              have HNV := Lib.hid hnv
              clear hYl hY hput hv hvl hall hcl hcs hT hpl hsl hbl hK hbody hnv hnx hkl

              by_cases hk1 : k + 1 < m
              case pos =>
                obtain ⟨pp, rfl, hcl1⟩ := hL1.at (k + 1) (HKL.out.2 hk1)
                rw [show l[k + 1]'(HKL.out.2 hk1) = X by rw [HNV.out, dif_pos (HKL.out.2 hk1)], add_lit pp (k + 1) (by omega)] at hcl1
                have n1 : (k : Int) + 1 < (m : Int) := by omega
                go_wp2_with fail
                refine (HPUT.out _).mono ?_
                rintro e w5 ⟨v5, rfl, ho5, hb5⟩
                obtain ⟨a5, c5, hv5, -, -, -, -⟩ := ho5.form
                rw [HYL.out] at hv5
                subst hv5
                have ht5 := HT.out.below hb5
                have HO5 := Lib.hid ho5
                have HT5 := Lib.hid ht5
                clear ho5 ht5
                go_wp2_with (at_builtin; refine wpList_app _ rfl _ _ rfl wr.heap.size _ _ rfl HO5.out _ _ _ _ rfl HT5.out ?c1 hb5.size ?_)
                case c1 => rw [HYL.out]; omega
                intro v6 w6 ho6 hg6 hat6
                have hb6 : Below wr.heap.size wr w6 := HO5.out.grown hb5 hb5.size hg6
                rw [← HBODY.out] at ho6
                obtain ⟨a6, c6, hv6, hr6, -, -, -⟩ := ho6.form
                subst hv6
                have HR6 := Lib.hid hr6
                have hll : (ln : Int) = (PT.length : Int) := by rw [HPL.out]
                have hseal := rseal_fun 5 0 (ln : Int) a6 CB.length c6 CB w6 HR6.out
                rw [show P.sealErr 5 0 (ln : Int) CB.length = 0 by rw [hll]; exact HSL.out, show P.sealB 5 0 (ln : Int) CB = CP by rw [hll]; exact HK.out.symm] at hseal
                have HSE := Lib.hid hseal
                clear ho6 hr6 hseal hll hg6 hat6
                go_wp2_with fail
                refine HSE.out.mono ?_
                rintro e w7 ⟨v7, rfl, ho7, hb7⟩
                obtain ⟨a7, c7, hv7, -, -, -, -⟩ := ho7.form
                subst hv7
                have hb7' := hb6.trans (hb7.mono hb6.size)
                have hb8 : Below wr.heap.size wr (w7.alloc (.cells #[.slice a7 CP.length c7] 24)) := hb7'.alloc hb7'.size _
                have hrv : RV (w7.alloc (.cells #[.slice a7 CP.length c7] 24)) (some ⟨w7.heap.size, 0, none⟩) 1 1 [.slice a7 CP.length c7] := RV_lit w7 24 1 1 [.slice a7 CP.length c7] rfl (by unfold maxLen; omega)
                have ho8 := (ho7.mono (Nat.le_trans hbs.size hb6.size)).alloc (.cells #[.slice a7 CP.length c7] 24)
                have HO8 := Lib.hid ho8
                have HRV := Lib.hid hrv
                have HB8 := Lib.hid hb8
                clear ho7 ho8 hrv hb8
                go_wp2_with (at_builtin; refine wpList_appV rowsT _ rfl _ _ rfl w1.heap.size _ _ _ rfl (HV.out.below HB8.out) _ _ _ _ rfl HRV.out (fun u hu => by rw [List.mem_singleton] at hu; subst hu; rfl) ?c1 ?c2 ?c3 ?_)
                case c1 => omega
                case c2 => omega
                case c3 => have := HB8.out.size; have := hbs.size; omega
                intro v9 w9 ho9 hg9 hat9
                obtain ⟨a9, c9, rfl, -⟩ := ho9.form
                have hol9 := OL_app (HV.out.below HB8.out) HVL.out HCL.out (fun i u c h1 h2 => (HALL.out i u c h1 h2).below HB8.out) HO8.out ho9 hg9
                rw [← HCS.out] at hol9
                have hb9 : Below w1.heap.size w1 w9 := (below_then hbs HB8.out hbs.size).grown hg9 (by have := HB8.out.size; have := hbs.size; omega) (fun r e => HV.out.base r e)
                have HOL9 := Lib.hid hol9
                clear ho9 hg9 hat9 hol9
                go_wp2
                go_roundw
                case rel => exact ⟨k + 1, by omega, by first | go_num | (simp; done), ⟨_, _, _, rfl⟩, by rw [HLE.out]; exact HOL9.out, hb9⟩
                case measure => simp [intOf]; omega
              case neg =>
                obtain rfl : X = 0 := by rw [HNV.out, dif_neg (fun h => hk1 (HKL.out.1 h))]
                have n1 : ¬ ((k : Int) + 1 < (m : Int)) := by omega
                go_wp2_with fail
                refine (HPUT.out _).mono ?_
                rintro e w5 ⟨v5, rfl, ho5, hb5⟩
                obtain ⟨a5, c5, hv5, -, -, -, -⟩ := ho5.form
                rw [HYL.out] at hv5
                subst hv5
                have ht5 := HT.out.below hb5
                have HO5 := Lib.hid ho5
                have HT5 := Lib.hid ht5
                clear ho5 ht5
                go_wp2_with (at_builtin; refine wpList_app _ rfl _ _ rfl wr.heap.size _ _ rfl HO5.out _ _ _ _ rfl HT5.out ?c1 hb5.size ?_)
                case c1 => rw [HYL.out]; omega
                intro v6 w6 ho6 hg6 hat6
                have hb6 : Below wr.heap.size wr w6 := HO5.out.grown hb5 hb5.size hg6
                rw [← HBODY.out] at ho6
                obtain ⟨a6, c6, hv6, hr6, -, -, -⟩ := ho6.form
                subst hv6
                have HR6 := Lib.hid hr6
                have hll : (ln : Int) = (PT.length : Int) := by rw [HPL.out]
                have hseal := rseal_fun 5 0 (ln : Int) a6 CB.length c6 CB w6 HR6.out
                rw [show P.sealErr 5 0 (ln : Int) CB.length = 0 by rw [hll]; exact HSL.out, show P.sealB 5 0 (ln : Int) CB = CP by rw [hll]; exact HK.out.symm] at hseal
                have HSE := Lib.hid hseal
                clear ho6 hr6 hseal hll hg6 hat6
                go_wp2_with fail
                refine HSE.out.mono ?_
                rintro e w7 ⟨v7, rfl, ho7, hb7⟩
                obtain ⟨a7, c7, hv7, -, -, -, -⟩ := ho7.form
                subst hv7
                have hb7' := hb6.trans (hb7.mono hb6.size)
                have hb8 : Below wr.heap.size wr (w7.alloc (.cells #[.slice a7 CP.length c7] 24)) := hb7'.alloc hb7'.size _
                have hrv : RV (w7.alloc (.cells #[.slice a7 CP.length c7] 24)) (some ⟨w7.heap.size, 0, none⟩) 1 1 [.slice a7 CP.length c7] := RV_lit w7 24 1 1 [.slice a7 CP.length c7] rfl (by unfold maxLen; omega)
                have ho8 := (ho7.mono (Nat.le_trans hbs.size hb6.size)).alloc (.cells #[.slice a7 CP.length c7] 24)
                have HO8 := Lib.hid ho8
                have HRV := Lib.hid hrv
                have HB8 := Lib.hid hb8
                clear ho7 ho8 hrv hb8
                go_wp2_with (at_builtin; refine wpList_appV rowsT _ rfl _ _ rfl w1.heap.size _ _ _ rfl (HV.out.below HB8.out) _ _ _ _ rfl HRV.out (fun u hu => by rw [List.mem_singleton] at hu; subst hu; rfl) ?c1 ?c2 ?c3 ?_)
                case c1 => omega
                case c2 => omega
                case c3 => have := HB8.out.size; have := hbs.size; omega
                intro v9 w9 ho9 hg9 hat9
                obtain ⟨a9, c9, rfl, -⟩ := ho9.form
                have hol9 := OL_app (HV.out.below HB8.out) HVL.out HCL.out (fun i u c h1 h2 => (HALL.out i u c h1 h2).below HB8.out) HO8.out ho9 hg9
                rw [← HCS.out] at hol9
                have hb9 : Below w1.heap.size w1 w9 := (below_then hbs HB8.out hbs.size).grown hg9 (by have := HB8.out.size; have := hbs.size; omega) (fun r e => HV.out.base r e)
                have HOL9 := Lib.hid hol9
                clear ho9 hg9 hat9 hol9
                go_wp2
                go_roundw
                case rel => exact ⟨k + 1, by omega, by first | go_num | (simp; done), ⟨_, _, _, rfl⟩, by rw [HLE.out]; exact HOL9.out, hb9⟩
                case measure => simp [intOf]; omega
            case neg =>
              obtain ⟨ln, hln⟩ : ∃ ln, ln = len - A := ⟨_, rfl⟩
              rw [show min 244 (len - A) = ln by omega] at hpl hT0
              have hT := hT0
              have b1 : ¬ (B : Int) < (len : Int) := by omega
              have b1' : (len : Int) ≤ (B : Int) := by omega
              have b2 : (len : Int) ≤ (cap : Int) := by omega
              have b3 : (A : Int) ≤ (len : Int) := by omega
              have b4 : len - A = ln := by omega
              have hln2 : ln ≤ 244 := by omega
              clear hT0 hln aBA hBl
              have hX0 : 0 ≤ X := by omega
              have hX1 : X < 4096 := by omega
              have hYl := P.be_length 4 X.toNat
              obtain ⟨Y, hY⟩ : ∃ Y, P.be 4 X.toNat = Y := ⟨_, rfl⟩
              rw [hY] at hbody hYl
              have hput : ∀ w, Calls Try.prog 55 #[.int .i64 4, .int .i64 X] w fun e w' => ∃ v, e = .returned v ∧ OB w' w.heap.size v Y ∧ Below w.heap.size w w' := fun w => by
                rw [← hY]
                exact refput_any 4 X w (by omega) (by omega) hX0 (by omega) (by simp; omega)
              have HPUT := Lib.hid hput
              have HYL := Lib.hid hYl
              have HV := Lib.hid hv
              have HVL := Lib.hid hvl
              have HALL := Lib.hid hall
              have HCL := Lib.hid hcl
              have HCS := Lib.hid hcs
              have HT := Lib.hid hT
              have HPL := Lib.hid hpl
              have HSL := Lib.hid hsl
              have HBL2 := Lib.hid hbl
              have HK := Lib.hid hK
              have HBODY := Lib.hid hbody
              have hkl : k + 1 < l.length ↔ k + 1 < m := by rw [HLM.out]
              have HKL := Lib.hid hkl
              have HNV := Lib.hid hnv
              clear hYl hY hput hv hvl hall hcl hcs hT hpl hsl hbl hK hbody hnv hnx hkl

              by_cases hk1 : k + 1 < m
              case pos =>
                obtain ⟨pp, rfl, hcl1⟩ := hL1.at (k + 1) (HKL.out.2 hk1)
                rw [show l[k + 1]'(HKL.out.2 hk1) = X by rw [HNV.out, dif_pos (HKL.out.2 hk1)], add_lit pp (k + 1) (by omega)] at hcl1
                have n1 : (k : Int) + 1 < (m : Int) := by omega
                go_wp2_with fail
                refine (HPUT.out _).mono ?_
                rintro e w5 ⟨v5, rfl, ho5, hb5⟩
                obtain ⟨a5, c5, hv5, -, -, -, -⟩ := ho5.form
                rw [HYL.out] at hv5
                subst hv5
                have ht5 := HT.out.below hb5
                have HO5 := Lib.hid ho5
                have HT5 := Lib.hid ht5
                clear ho5 ht5
                go_wp2_with (at_builtin; refine wpList_app _ rfl _ _ rfl wr.heap.size _ _ rfl HO5.out _ _ _ _ rfl HT5.out ?c1 hb5.size ?_)
                case c1 => rw [HYL.out]; omega
                intro v6 w6 ho6 hg6 hat6
                have hb6 : Below wr.heap.size wr w6 := HO5.out.grown hb5 hb5.size hg6
                rw [← HBODY.out] at ho6
                obtain ⟨a6, c6, hv6, hr6, -, -, -⟩ := ho6.form
                subst hv6
                have HR6 := Lib.hid hr6
                have hll : (ln : Int) = (PT.length : Int) := by rw [HPL.out]
                have hseal := rseal_fun 5 0 (ln : Int) a6 CB.length c6 CB w6 HR6.out
                rw [show P.sealErr 5 0 (ln : Int) CB.length = 0 by rw [hll]; exact HSL.out, show P.sealB 5 0 (ln : Int) CB = CP by rw [hll]; exact HK.out.symm] at hseal
                have HSE := Lib.hid hseal
                clear ho6 hr6 hseal hll hg6 hat6
                go_wp2_with fail
                refine HSE.out.mono ?_
                rintro e w7 ⟨v7, rfl, ho7, hb7⟩
                obtain ⟨a7, c7, hv7, -, -, -, -⟩ := ho7.form
                subst hv7
                have hb7' := hb6.trans (hb7.mono hb6.size)
                have hb8 : Below wr.heap.size wr (w7.alloc (.cells #[.slice a7 CP.length c7] 24)) := hb7'.alloc hb7'.size _
                have hrv : RV (w7.alloc (.cells #[.slice a7 CP.length c7] 24)) (some ⟨w7.heap.size, 0, none⟩) 1 1 [.slice a7 CP.length c7] := RV_lit w7 24 1 1 [.slice a7 CP.length c7] rfl (by unfold maxLen; omega)
                have ho8 := (ho7.mono (Nat.le_trans hbs.size hb6.size)).alloc (.cells #[.slice a7 CP.length c7] 24)
                have HO8 := Lib.hid ho8
                have HRV := Lib.hid hrv
                have HB8 := Lib.hid hb8
                clear ho7 ho8 hrv hb8
                go_wp2_with (at_builtin; refine wpList_appV rowsT _ rfl _ _ rfl w1.heap.size _ _ _ rfl (HV.out.below HB8.out) _ _ _ _ rfl HRV.out (fun u hu => by rw [List.mem_singleton] at hu; subst hu; rfl) ?c1 ?c2 ?c3 ?_)
                case c1 => omega
                case c2 => omega
                case c3 => have := HB8.out.size; have := hbs.size; omega
                intro v9 w9 ho9 hg9 hat9
                obtain ⟨a9, c9, rfl, -⟩ := ho9.form
                have hol9 := OL_app (HV.out.below HB8.out) HVL.out HCL.out (fun i u c h1 h2 => (HALL.out i u c h1 h2).below HB8.out) HO8.out ho9 hg9
                rw [← HCS.out] at hol9
                have hb9 : Below w1.heap.size w1 w9 := (below_then hbs HB8.out hbs.size).grown hg9 (by have := HB8.out.size; have := hbs.size; omega) (fun r e => HV.out.base r e)
                have HOL9 := Lib.hid hol9
                clear ho9 hg9 hat9 hol9
                go_wp2
                go_roundw
                case rel => exact ⟨k + 1, by omega, by first | go_num | (simp; done), ⟨_, _, _, rfl⟩, by rw [HLE.out]; exact HOL9.out, hb9⟩
                case measure => simp [intOf]; omega
              case neg =>
                obtain rfl : X = 0 := by rw [HNV.out, dif_neg (fun h => hk1 (HKL.out.1 h))]
                have n1 : ¬ ((k : Int) + 1 < (m : Int)) := by omega
                go_wp2_with fail
                refine (HPUT.out _).mono ?_
                rintro e w5 ⟨v5, rfl, ho5, hb5⟩
                obtain ⟨a5, c5, hv5, -, -, -, -⟩ := ho5.form
                rw [HYL.out] at hv5
                subst hv5
                have ht5 := HT.out.below hb5
                have HO5 := Lib.hid ho5
                have HT5 := Lib.hid ht5
                clear ho5 ht5
                go_wp2_with (at_builtin; refine wpList_app _ rfl _ _ rfl wr.heap.size _ _ rfl HO5.out _ _ _ _ rfl HT5.out ?c1 hb5.size ?_)
                case c1 => rw [HYL.out]; omega
                intro v6 w6 ho6 hg6 hat6
                have hb6 : Below wr.heap.size wr w6 := HO5.out.grown hb5 hb5.size hg6
                rw [← HBODY.out] at ho6
                obtain ⟨a6, c6, hv6, hr6, -, -, -⟩ := ho6.form
                subst hv6
                have HR6 := Lib.hid hr6
                have hll : (ln : Int) = (PT.length : Int) := by rw [HPL.out]
                have hseal := rseal_fun 5 0 (ln : Int) a6 CB.length c6 CB w6 HR6.out
                rw [show P.sealErr 5 0 (ln : Int) CB.length = 0 by rw [hll]; exact HSL.out, show P.sealB 5 0 (ln : Int) CB = CP by rw [hll]; exact HK.out.symm] at hseal
                have HSE := Lib.hid hseal
                clear ho6 hr6 hseal hll hg6 hat6
                go_wp2_with fail
                refine HSE.out.mono ?_
                rintro e w7 ⟨v7, rfl, ho7, hb7⟩
                obtain ⟨a7, c7, hv7, -, -, -, -⟩ := ho7.form
                subst hv7
                have hb7' := hb6.trans (hb7.mono hb6.size)
                have hb8 : Below wr.heap.size wr (w7.alloc (.cells #[.slice a7 CP.length c7] 24)) := hb7'.alloc hb7'.size _
                have hrv : RV (w7.alloc (.cells #[.slice a7 CP.length c7] 24)) (some ⟨w7.heap.size, 0, none⟩) 1 1 [.slice a7 CP.length c7] := RV_lit w7 24 1 1 [.slice a7 CP.length c7] rfl (by unfold maxLen; omega)
                have ho8 := (ho7.mono (Nat.le_trans hbs.size hb6.size)).alloc (.cells #[.slice a7 CP.length c7] 24)
                have HO8 := Lib.hid ho8
                have HRV := Lib.hid hrv
                have HB8 := Lib.hid hb8
                clear ho7 ho8 hrv hb8
                go_wp2_with (at_builtin; refine wpList_appV rowsT _ rfl _ _ rfl w1.heap.size _ _ _ rfl (HV.out.below HB8.out) _ _ _ _ rfl HRV.out (fun u hu => by rw [List.mem_singleton] at hu; subst hu; rfl) ?c1 ?c2 ?c3 ?_)
                case c1 => omega
                case c2 => omega
                case c3 => have := HB8.out.size; have := hbs.size; omega
                intro v9 w9 ho9 hg9 hat9
                obtain ⟨a9, c9, rfl, -⟩ := ho9.form
                have hol9 := OL_app (HV.out.below HB8.out) HVL.out HCL.out (fun i u c h1 h2 => (HALL.out i u c h1 h2).below HB8.out) HO8.out ho9 hg9
                rw [← HCS.out] at hol9
                have hb9 : Below w1.heap.size w1 w9 := (below_then hbs HB8.out hbs.size).grown hg9 (by have := HB8.out.size; have := hbs.size; omega) (fun r e => HV.out.base r e)
                have HOL9 := Lib.hid hol9
                clear ho9 hg9 hat9 hol9
                go_wp2
                go_roundw
                case rel => exact ⟨k + 1, by omega, by first | go_num | (simp; done), ⟨_, _, _, rfl⟩, by rw [HLE.out]; exact HOL9.out, hb9⟩
                case measure => simp [intOf]; omega
          · obtain rfl : k = m := by omega
            go_wp2
            go_ret2
            exact ⟨_, by rw [HZ1.out]; rfl, by rw [HZ2.out, HLM.out]; exact hol, hbs⟩
end Go.Proofs.Ytpdmhnppibfmkaa
