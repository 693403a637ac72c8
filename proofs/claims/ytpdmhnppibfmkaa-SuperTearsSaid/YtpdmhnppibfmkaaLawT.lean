/- The walk of the law SuperTears. -/
import Derived.Test.YtpdmhnppibfmkaaLawS0
namespace Go.Proofs.Ytpdmhnppibfmkaa
set_option linter.unusedVariables false
set_option linter.unusedSimpArgs false
open Go.RowKit

set_option maxRecDepth 100000 in
set_option maxHeartbeats 1600000 in
theorem tears_bad (x y : P.Sup) (u : Int) (w : World) (h : ¬ (x.chk = 0 ∧ y.chk = 0)) :
    Calls Try.prog 4 #[supV x, supV y, .int .u8 u] w fun e w' => e = .returned (.bool true) ∧ Below w.heap.size w w' := by
  have HX := Lib.hid (fun w => enc_fun x w)
  have HY := Lib.hid (fun w => enc_fun y w)
  have hq : (x.chk != 0) = true ∨ (x.chk != 0) = false ∧ (y.chk != 0) = true := by
    by_cases h1 : x.chk = 0
    · exact .inr ⟨by simpa using h1, by simpa using fun h2 => h ⟨h1, h2⟩⟩
    · exact .inl (by simpa using h1)
  obtain ⟨K, hK⟩ : ∃ K, K = x.page := ⟨_, rfl⟩
  obtain ⟨L, hL⟩ : ∃ K, K = y.page := ⟨_, rfl⟩
  obtain ⟨X, hX⟩ : ∃ K, K = x.chk := ⟨_, rfl⟩
  obtain ⟨Y, hY⟩ : ∃ K, K = y.chk := ⟨_, rfl⟩
  rw [← hK, ← hX] at HX
  rw [← hL, ← hY] at HY
  rw [← hX, ← hY] at hq
  unfold supV at HX HY ⊢
  clear hK hL hX hY h
  go_enter Try.func4, Try.ntmps4
  go_wp2_with fail
  refine (awake7_any _).mono ?_
  rintro e w1 ⟨rfl, hb1⟩
  have hb : Below w.heap.size w w1 := ((Below.refl _ w).alloc (Nat.le_refl _) _ |>.alloc (by simp) _).trans (hb1.mono (by simp; omega))
  have hkx : w1.heap[w.heap.size]? = _ := (hb1.block _ (by simp; omega)).trans (alloc_old (alloc_new w (.cells #[.int .i64 x.g, .int .i64 x.p, .int .i64 x.r, .int .i64 x.h, .int .i64 x.b, .int .i64 x.l, .int .i64 x.s, .int .i64 x.f] 23) _ rfl) (.cells #[.int .i64 y.g, .int .i64 y.p, .int .i64 y.r, .int .i64 y.h, .int .i64 y.b, .int .i64 y.l, .int .i64 y.s, .int .i64 y.f] 23))
  have hky : w1.heap[w.heap.size + 1]? = _ := (hb1.block _ (by simp)).trans (alloc_new (w.alloc (.cells #[.int .i64 x.g, .int .i64 x.p, .int .i64 x.r, .int .i64 x.h, .int .i64 x.b, .int .i64 x.l, .int .i64 x.s, .int .i64 x.f] 23)) (.cells #[.int .i64 y.g, .int .i64 y.p, .int .i64 y.r, .int .i64 y.h, .int .i64 y.b, .int .i64 y.l, .int .i64 y.s, .int .i64 y.f] 23) _ (by simp))
  have lx := lt_of_block hkx
  have ly := lt_of_block hky
  have HKX := Lib.hid hkx
  have HKY := Lib.hid hky
  have gx := cell_blk hkx
  clear hkx hky hb1
  go_wp2_with fail
  refine (HX.out _).mono ?_
  rintro e w2 ⟨v2, rfl, ho2, hb2⟩
  have hbb2 := below_then hb hb2 hb.size
  have HKX2 := Lib.hid ((hb2.block _ lx).trans HKX.out)
  have HKY2 := Lib.hid ((hb2.block _ ly).trans HKY.out)
  have lx2 := lt_of_block HKX2.out
  have ly2 := lt_of_block HKY2.out
  obtain ⟨a2, q2, hv2, hr2, hm2, -, -⟩ := ho2.form
  subst hv2
  have HR2 := Lib.hid hr2
  have gy := cell_blk HKY2.out
  clear ho2 hr2 gx
  go_wp2_with fail
  refine (HY.out _).mono ?_
  rintro e w3 ⟨v3, rfl, ho3, hb3⟩
  have hbb3 := below_then hbb2 hb3 hbb2.size
  obtain ⟨a3, q3, hv3, hr3, hm3, -, -⟩ := ho3.form
  subst hv3
  have HR3 := Lib.hid hr3
  clear ho3 hr3 gy
  rcases hq with h1 | ⟨h0, h1⟩
  all_goals
    go_wp2
    go_ret
    exact ⟨rfl, hbb3⟩

theorem bit_and (u i : Nat) (hu : u < 256) : (bits .and .u8 ((u : Int) / 2 ^ i) 1 == 1) = P.bitOf u i := by
  have e : ((u : Int) / 2 ^ i) = ((u / 2 ^ i : Nat) : Int) := by
    have : ((2 ^ i : Nat) : Int) = (2 : Int) ^ i := by norm_cast
    rw [← this]
    norm_cast
  have hlt : u / 2 ^ i < 256 := Nat.lt_of_le_of_lt (Nat.div_le_self _ _) hu
  have ha := and8 (u / 2 ^ i) 1 hlt (by omega)
  rw [Nat.and_one_is_mod] at ha
  have ha' : bits .and .u8 ((u / 2 ^ i : Nat) : Int) 1 = ((u / 2 ^ i % 2 : Nat) : Int) := ha
  rw [e, ha']
  unfold P.bitOf
  rcases Nat.mod_two_eq_zero_or_one (u / 2 ^ i) with h | h <;> rw [h] <;> rfl
theorem tear_on (K L : List UInt8) (u j : Nat) (h : P.bitOf u (j / 64) = true) (hj : j < L.length) : P.tearTo K L u (j + 1) = (P.tearTo K L u j).set j L[j] := by
  have e : L.getD j 0 = L[j] := by simp [List.getD, hj]
  rw [P.tearTo, if_pos h, e]
theorem tear_off (K L : List UInt8) (u j : Nat) (h : P.bitOf u (j / 64) = false) : P.tearTo K L u (j + 1) = P.tearTo K L u j := by
  rw [P.tearTo, if_neg (by simp [h])]
theorem sErr_zero {l : List UInt8} (h : P.sErr l = 0) : P.openErr l = 0 ∧ P.oK l = 1 := by
  by_cases h1 : P.openErr l = 0
  · refine ⟨h1, ?_⟩
    by_cases h2 : (P.openKind l = 1 ∧ P.openLevel l = 0 ∧ P.openCount l = 0 ∧ ((P.openBody l).drop 34).all (· == 0) = true ∧ (P.dec (P.openBody l)).chk = 0)
    · simp [P.oK, h1, h2.1]
    · have := (P.sErr_bad h1 h2).1; omega
  · have := (P.sErr_open h1).1; omega
set_option maxRecDepth 100000 in
set_option maxHeartbeats 1600000 in
theorem tears_good (x y : P.Sup) (u : Nat) (hu : u < 256) (w : World) (hcx : x.chk = 0) (hcy : y.chk = 0) :
    Calls Try.prog 4 #[supV x, supV y, .int .u8 (u : Int)] w fun e w' => e = .returned (.bool true) ∧ Below w.heap.size w w' := by
  have HX := Lib.hid (fun w => enc_fun x w)
  have HY := Lib.hid (fun w => enc_fun y w)
  have hlx := P.Sup.page_length hcx
  have hly := P.Sup.page_length hcy
  have htear := P.tear_page hcx hcy u
  have dx := P.sErr_page hcx
  have dy := P.sErr_page hcy
  obtain ⟨K, hK⟩ : ∃ K, K = x.page := ⟨_, rfl⟩
  obtain ⟨L, hL⟩ : ∃ K, K = y.page := ⟨_, rfl⟩
  rw [← hK, hcx] at HX
  rw [← hL, hcy] at HY
  rw [← hK] at hlx htear dx
  rw [← hL] at hly htear dy
  unfold supV at HX HY ⊢
  have HT := Lib.hid htear
  have DX := Lib.hid dx
  have DY := Lib.hid dy
  have HLX := Lib.hid hlx
  have HLY := Lib.hid hly
  clear hK hL htear dx dy hlx hly
  go_enter Try.func4, Try.ntmps4
  go_wp2_with fail
  refine (awake7_any _).mono ?_
  rintro e w1 ⟨rfl, hb1⟩
  have hb : Below w.heap.size w w1 := ((Below.refl _ w).alloc (Nat.le_refl _) _ |>.alloc (by simp) _).trans (hb1.mono (by simp; omega))
  have hkx : w1.heap[w.heap.size]? = _ := (hb1.block _ (by simp; omega)).trans (alloc_old (alloc_new w (.cells #[.int .i64 x.g, .int .i64 x.p, .int .i64 x.r, .int .i64 x.h, .int .i64 x.b, .int .i64 x.l, .int .i64 x.s, .int .i64 x.f] 23) _ rfl) (.cells #[.int .i64 y.g, .int .i64 y.p, .int .i64 y.r, .int .i64 y.h, .int .i64 y.b, .int .i64 y.l, .int .i64 y.s, .int .i64 y.f] 23))
  have hky : w1.heap[w.heap.size + 1]? = _ := (hb1.block _ (by simp)).trans (alloc_new (w.alloc (.cells #[.int .i64 x.g, .int .i64 x.p, .int .i64 x.r, .int .i64 x.h, .int .i64 x.b, .int .i64 x.l, .int .i64 x.s, .int .i64 x.f] 23)) (.cells #[.int .i64 y.g, .int .i64 y.p, .int .i64 y.r, .int .i64 y.h, .int .i64 y.b, .int .i64 y.l, .int .i64 y.s, .int .i64 y.f] 23) _ (by simp))
  have lx := lt_of_block hkx
  have ly := lt_of_block hky
  have HKX := Lib.hid hkx
  have HKY := Lib.hid hky
  have gx := cell_blk hkx
  clear hkx hky hb1
  go_wp2_with fail
  refine (HX.out _).mono ?_
  rintro e w2 ⟨v2, rfl, ho2, hb2⟩
  have hbb2 := below_then hb hb2 hb.size
  have HKX2 := Lib.hid ((hb2.block _ lx).trans HKX.out)
  have HKY2 := Lib.hid ((hb2.block _ ly).trans HKY.out)
  have lx2 := lt_of_block HKX2.out
  have ly2 := lt_of_block HKY2.out
  obtain ⟨a2, q2, hv2, hr2, hm2, -, -⟩ := ho2.form
  rw [HLX.out] at hv2 hr2 hm2
  subst hv2
  have HR2 := Lib.hid hr2
  have gy := cell_blk HKY2.out
  clear ho2 hr2 gx
  go_wp2_with fail
  refine (HY.out _).mono ?_
  rintro e w3 ⟨v3, rfl, ho3, hb3⟩
  have hbb3 := below_then hbb2 hb3 hbb2.size
  obtain ⟨a3, q3, hv3, hr3, hm3, -, -⟩ := ho3.form
  rw [HLY.out] at hv3 hr3 hm3
  subst hv3
  have HR3 := Lib.hid hr3
  clear ho3 hr3 gy
  have HR23 := Lib.hid (HR2.out.below hb3)
  have HKX3 := Lib.hid ((hb3.block _ lx2).trans HKX2.out)
  have HKY3 := Lib.hid ((hb3.block _ ly2).trans HKY2.out)
  have lx3 := lt_of_block HKX3.out
  have ly3 := lt_of_block HKY3.out
  go_wp2_with fail
  refine (copy_any _ _ _ K _ HR23.out (by omega)).mono ?_
  rintro e w4 ⟨v4, rfl, ho4, hb4⟩
  have hbb4 := below_then hbb3 hb4 hbb3.size
  obtain ⟨g4, q4, hv4, hB4, hg4, hr4, hm4⟩ := ho4.pos (by rw [HLX.out]; omega)
  rw [HLX.out] at hv4 hm4
  subst hv4
  have HO4 := Lib.hid ho4
  have HR34 := Lib.hid (HR3.out.below hb4)
  have HP3 := Lib.hid (fun p (hp : a3 = some p) => (Nat.lt_of_lt_of_le (HR3.out.lt (by rw [HLY.out]; omega) p hp) hB4))
  clear ho4 hr4
  go_wp2
  go_loopw [12] (fun i wr => ∃ j : Nat, j ≤ 256 ∧ i = .int .i64 j ∧ OB wr w3.heap.size (.slice (some ⟨g4, 0, none⟩) 256 q4) (P.tearTo K L u j) ∧ Chg (fun k => k = g4) w4 wr) (fun i _ => 256 - (intOf i).toNat)
  case atStart => exact ⟨0, by omega, rfl, HO4.out, Chg.refl _ _⟩
  case round =>
    obtain ⟨j, hj, rfl, ho, hch⟩ := hrel
    have HO := Lib.hid ho
    have HCH := Lib.hid hch
    clear ho hch
    have hsr := HCH.out.size
    by_cases hlt : j < 256
    · have hba := bit_and u (j / 64) hu
      have htl : (P.tearTo K L u j).length = 256 := by rw [P.tearTo_length, HLX.out]
      have hcg := HO.out.cell j (by omega)
      have hfg := HO.out.free j
      rcases hbit : P.bitOf u (j / 64) with _ | _
      · have HN := Lib.hid (tear_off K L u j hbit)
        rw [hbit] at hba
        clear hbit hcg hfg
        go_wp2
        exact ⟨⟨j + 1, by omega, by go_num, by rw [HN.out]; exact HO.out, HCH.out⟩, by simp [intOf]; omega⟩
      · have HN := Lib.hid (tear_on K L u j hbit (by rw [HLY.out]; omega))
        rw [hbit] at hba
        obtain ⟨p3, rfl, hc3⟩ := (HR34.out.chg HCH.out (fun p hp => by have := HP3.out p hp; omega)).at j (by rw [HLY.out]; omega)
        have hjl : j < L.length := by rw [HLY.out]; omega
        have hst := HO.out.stored j L[j]
        unfold bv at hc3 hst
        rw [← HN.out] at hst
        have HST := Lib.hid hst
        have hch2 := HCH.out.setCell ⟨g4, j, none⟩ (.int .u8 ((L[j]'(by rw [HLY.out]; omega)).toNat : Int)) (.inr rfl)
        have HCH2 := Lib.hid hch2
        unfold bv at hcg
        clear hbit hst hch2
        go_wp2
        exact ⟨⟨j + 1, by omega, by go_num, HST.out, HCH2.out⟩, by simp [intOf]; omega⟩
    · obtain rfl : j = 256 := by omega
      obtain ⟨D, hD⟩ : ∃ D, D = P.tearTo K L u 256 := ⟨_, rfl⟩
      have hDL : D.length = 256 := by rw [hD, P.tearTo_length, HLX.out]
      rw [← hD] at HO
      have htear := HT.out
      rw [← hD] at htear
      clear hD
      have HDL := Lib.hid hDL
      have hd3 : ∃ z, P.sErr D = 0 ∧ P.sSup D = z ∧ (z = x ∨ z = y) := by
        rcases htear with rfl | rfl
        · exact ⟨x, DX.out.1, DX.out.2, .inl rfl⟩
        · exact ⟨y, DY.out.1, DY.out.2, .inr rfl⟩
      clear htear hDL
      obtain ⟨z, hd3⟩ := hd3
      have HD := Lib.hid hd3
      clear hd3
      have hd := HD.out
      have ha := hd.1
      have hz := hd.2.1
      obtain ⟨oe, ok⟩ := sErr_zero ha
      have rd : Rd wr (some ⟨g4, 0, none⟩) 256 D := by
        obtain ⟨a5, p5, hv5, hr5, -⟩ := HO.out.form
        have hl5 : D.length = 256 := by rw [HDL.out]
        rw [hl5] at hv5 hr5
        cases hv5
        exact hr5
      have hbr : Below w3.heap.size w3 wr := below_chg hb4 HCH.out hb4.size (fun i e => by omega)
      have hbbr := below_then hbb3 hbr hbb3.size
      have HKXr := Lib.hid ((hbr.block _ lx3).trans HKX3.out)
      have HKYr := Lib.hid ((hbr.block _ ly3).trans HKY3.out)
      have lxr := lt_of_block HKXr.out
      have lyr := lt_of_block HKYr.out
      have HRD := Lib.hid rd
      have hDec := dec_fun (some ⟨g4, 0, none⟩) 256 q4 D wr rd hm4
      rw [ha, hz] at hDec
      unfold supV at hDec
      have HOP := Lib.hid (fun w (h : Rd w (some ⟨g4, 0, none⟩) 256 D) => open_fun (some ⟨g4, 0, none⟩) 256 q4 D w h hm4)
      rw [oe, ok] at HOP
      have HDEC := Lib.hid hDec
      clear hd ha hz oe ok rd hDec
      go_wp2_with fail
      refine HDEC.out.mono ?_
      rintro e w5 ⟨rfl, hb5⟩
      have hbb5 := below_then hbbr hb5 hbbr.size
      go_wp2_with fail
      have hb6 : Below w5.heap.size w5 (w5.alloc (.cells #[.int .i64 z.g, .int .i64 z.p, .int .i64 z.r, .int .i64 z.h, .int .i64 z.b, .int .i64 z.l, .int .i64 z.s, .int .i64 z.f] 23)) := (Below.refl _ w5).alloc (Nat.le_refl _) _
      have hk6 : (w5.alloc (.cells #[.int .i64 z.g, .int .i64 z.p, .int .i64 z.r, .int .i64 z.h, .int .i64 z.b, .int .i64 z.l, .int .i64 z.s, .int .i64 z.f] 23)).heap[w5.heap.size]? = _ := alloc_new _ _ _ rfl
      generalize w5.alloc (.cells #[.int .i64 z.g, .int .i64 z.p, .int .i64 z.r, .int .i64 z.h, .int .i64 z.b, .int .i64 z.l, .int .i64 z.s, .int .i64 z.f] 23) = w6 at *
      have hbb6 := below_then hbb5 hb6 hbb5.size
      have l6 := lt_of_block hk6
      have HK6 := Lib.hid hk6
      have hb56 := hb5.trans (hb6.mono hb5.size)
      clear hk6
      refine (HOP.out _ (HRD.out.below hb56)).mono ?_
      rintro e w7 ⟨v7, rfl, ho7, hb7⟩
      obtain ⟨a7, q7, hv7, -, -, -, -⟩ := ho7.form
      subst hv7
      have hbb7 := below_then hbb6 hb7 hbb6.size
      have hb57 := hb56.trans (hb7.mono hb56.size)
      have gz := cell_blk ((hb7.block _ l6).trans HK6.out)
      have gx7 := cell_blk ((hb57.block _ lxr).trans HKXr.out)
      have gy7 := cell_blk ((hb57.block _ lyr).trans HKYr.out)
      have lz7 : w5.heap.size < w7.heap.size := by have := hb7.size; omega
      have lx7 : w.heap.size < w7.heap.size := by have := hb57.size; omega
      have ly7 : w.heap.size + 1 < w7.heap.size := by have := hb57.size; omega
      clear ho7 HK6
      rcases HD.out.2.2 with hzx | hzy
      · rw [hzx] at gz ⊢
        go_wp2
        go_ret
        exact ⟨by first | rfl | (simp; done), hbb7.alloc hbb7.size _⟩
      · rw [hzy] at gz ⊢
        go_wp2
        all_goals
          go_ret
          exact ⟨by first | rfl | (simp; done), hbb7.alloc hbb7.size _⟩
theorem superTears_walk (x y : P.Sup) (u : Int) (w : World) (hu : 0 ≤ u ∧ u ≤ 255) :
    Calls Try.prog 4 #[supV x, supV y, .int .u8 u] w fun e w' => e = .returned (.bool true) ∧ Below w.heap.size w w' := by
  by_cases h : x.chk = 0 ∧ y.chk = 0
  · have := tears_good x y u.toNat (by omega) w h.1 h.2
    rwa [Int.toNat_of_nonneg hu.1] at this
  · exact tears_bad x y u w h
end Go.Proofs.Ytpdmhnppibfmkaa
