/- The walk of the law RegisterRing. -/
import Derived.Test.YtleicgigkbfnbaaReK
import Derived.BigQuiet
import Derived.Deep.RegionWith
import Derived.StillTailTactics
namespace Go.Proofs.Ytleicgigkbfnbaa
set_option linter.unusedVariables false
set_option linter.unusedSimpArgs false
open Go.RowKit
attribute [local irreducible] wpQuiet

/-- The numbers 1 to 9 behind j deletions. -/
def RingAt (l : List UInt8) (j : Nat) (M : RM) : Prop := ∀ k, k < 9 → M (49 + k) = if k < j then some (false, [l.getD (j - 1 - k) 0]) else none
theorem ring0 (l : List UInt8) : RingAt l 0 (fun _ => none) := fun k hk => by rw [if_neg (by omega)]
theorem ring_del (l : List UInt8) (j : Nat) (hj : j < l.length) (M : RM) (h : RingAt l j M) : RingAt l (j + 1) (upd (shift M 49) 49 (some (false, [l[j]]))) := by
  intro k hk
  unfold upd
  by_cases h0 : k = 0
  · subst h0
    rw [if_pos rfl, if_pos (by omega)]
    simp [List.getD, hj]
  · rw [if_neg (by omega)]
    unfold shift
    rw [if_pos (by omega)]
    have h2 := h (k - 1) (by omega)
    rw [show 49 + k - 1 = 49 + (k - 1) by omega, h2]
    by_cases h3 : k - 1 < j
    · rw [if_pos h3, if_pos (by omega), show j - 1 - (k - 1) = j + 1 - 1 - k by omega]
    · rw [if_neg h3, if_neg (by omega)]
theorem ring_upd (l : List UInt8) (j i : Nat) (x : Option (Bool × List UInt8)) (M : RM) (h : RingAt l j M) (hi : i < 49 ∨ 57 < i) : RingAt l j (upd M i x) := by
  intro k hk
  unfold upd
  rw [if_neg (by omega)]
  exact h k hk
theorem gk_ring (nm k : Nat) (hk : k < 9) : gk nm (49 + k) = 49 + k := by
  unfold gk sm
  rw [if_neg (show ¬ (49 + k = 34) by omega), if_neg (by omega)]
theorem yk0 : yk 0 = 48 := rfl
theorem yk97 : yk 97 = 97 := rfl
theorem set48 (M : RM) (ln : Bool) (t : List UInt8) : setM M 48 ln t = upd M 48 (some (ln, t)) := rfl
theorem rk_k' : setOk 48 = true := rfl
theorem rk_n' : (if (true : Bool) = true then sm 48 else 49) = 48 := rfl
theorem set97 (M : RM) (ln : Bool) (t : List UInt8) : setM M 97 ln t = upd M 97 (some (ln, t)) := rfl
set_option maxRecDepth 100000 in
set_option maxHeartbeats 3200000 in
theorem registerRing_walk (a : Option Addr) (n ca : Nat) (l : List UInt8) (yank : Bool) (w : World) (hr : Rd w a n l) (hc : n ≤ ca) :
    Calls Try.prog 4 #[.slice a n ca, .bool yank] w fun e w' => e = .returned (.bool true) ∧ Below w.heap.size w w' := by
  have HL := Lib.hid hr.1
  have HR := Lib.hid hr
  by_cases hg : n ≤ 100
  case neg =>
    have hq : 100 < (n : Int) := by omega
    clear hg hr
    go_enter Try.func4, Try.ntmps4
    go_wp2_with fail
    refine (awake21_any _).mono ?_
    rintro e w1 ⟨rfl, hb⟩
    go_wp2
    go_ret
    exact ⟨rfl, hb⟩
  case pos =>
    have c2 : decide (100 < (n : Int)) = false := decide_eq_false (by omega)
    clear hr
    go_enter Try.func4, Try.ntmps4
    go_wp2_with fail
    refine (awake21_any _).mono ?_
    rintro e w1 ⟨rfl, hb1⟩
    go_wp2_with fail
    refine (new_any _).mono ?_
    rintro e w2 ⟨rfl, hr2, hb2⟩
    obtain ⟨b, hbe⟩ : ∃ b, b = w1.heap.size := ⟨_, rfl⟩
    rw [← hbe] at hr2 hb2 ⊢
    have hB : w.heap.size ≤ b := by rw [hbe]; exact hb1.size
    have hbb2 : Below w.heap.size w w2 := hb1.trans (hb2.mono hB)
    have HR2 := Lib.hid hr2
    clear hbe hb1 hb2 hr2
    go_wp2
    go_loopw [6] (fun i wr => ∃ j : Nat, j ≤ n ∧ i = .int .i64 j ∧ (∃ M nm, RegIs wr (b + 1) b (12 * j) M nm ∧ RingAt l j M) ∧ Below w.heap.size w wr) (fun i _ => n - (intOf i).toNat)
    case atStart => exact ⟨0, by omega, rfl, ⟨_, _, HR2.out, ring0 l⟩, hbb2⟩
    case round =>
      obtain ⟨j, hj, rfl, ⟨M, nm, hreg, hring⟩, hbr⟩ := hrel
      by_cases hlt : j < n
      · have hjl : j < l.length := by have := HL.out; omega
        obtain ⟨p0, rfl, hp0⟩ := (HR.out.below hbr).at j hjl
        have hlt2 := hreg.lt
        have hd := ring_del l j hjl M hring
        obtain ⟨x, hx⟩ : ∃ x, x = l[j] := ⟨_, rfl⟩
        rw [← hx] at hp0 hd
        unfold bv at hp0
        obtain ⟨xn, hxn⟩ : ∃ m : Nat, m = x.toNat := ⟨_, rfl⟩
        rw [← hxn] at hp0
        have hba : Below wr.heap.size wr (wr.alloc (.cells #[.int .u8 (xn : Nat)] 5)) := (Below.refl _ wr).alloc (Nat.le_refl _) _
        have hrt : Rd (wr.alloc (.cells #[.int .u8 (xn : Nat)] 5)) (some ⟨wr.heap.size, 0, none⟩) 1 [x] := by
          rw [hxn]
          exact Rd_lit wr 5 [x] (fr := (0, 0)) (by simp [maxLen])
        have hdel := delete_plain _ _ _ _ 0 false (some ⟨wr.heap.size, 0, none⟩) 1 1 [x] M _ (hreg.below hba) (by omega) hrt (Nat.le_refl _) (by omega) (fun q hq => by cases hq; exact ⟨by simp; omega, by simp; omega⟩) (.inl rfl)
        obtain ⟨M1, hM1⟩ : ∃ M1, M1 = upd (shift M 49) 49 (some (false, [x])) := ⟨_, rfl⟩
        rw [← hM1] at hd hdel
        have HDEL := Lib.hid hdel
        have HD := Lib.hid hd
        have hbba := below_then hbr hba hbr.size
        clear hreg hring hx hxn hba hrt hdel hM1 hd
        go_wp2_with fail
        refine HDEL.out.mono ?_
        rintro e w3 ⟨rfl, hr3, hc3⟩
        have hbb3 := below_chg2 hbba hc3 (by omega) hB (Nat.le_refl _)
        clear hc3 hbba
        rcases yank with _ | _
        case false =>
          obtain ⟨w5, hw5⟩ : ∃ w5, w5 = w3 := ⟨_, rfl⟩
          subst hw5
          obtain ⟨M5, nm5, HR5, HD5⟩ : ∃ M5 nm5, Hid (RegIs w5 (b + 1) b (12 * (j + 1)) M5 nm5) ∧ Hid (RingAt l (j + 1) M5) := ⟨M1, 49, Lib.hid (hr3.mono (show 12 * j + 9 ≤ 12 * (j + 1) by omega)), HD⟩
          have hbb5 := hbb3
          clear hr3 hp0 HDEL

          go_wp2
          go_loopw [7] (fun i wr => ∃ k : Nat, k ≤ 9 ∧ i = .int .i64 k ∧ Below w5.heap.size w5 wr) (fun i _ => 9 - (intOf i).toNat)
          case atStart => exact ⟨0, by omega, rfl, Below.refl _ _⟩
          case round =>
            obtain ⟨k, hk, rfl, hbk⟩ := hrel
            have hregk := HR5.out.below hbk
            have hbbk := below_then hbb5 hbk hbb5.size
            by_cases hk9 : k < 9
            · have hM := HD5.out k hk9
              by_cases hkj : k < j + 1
              case pos =>
                rw [if_pos hkj] at hM
                obtain ⟨d, hd⟩ : ∃ d, d = j - k := ⟨_, rfl⟩
                have hdl : d < l.length := by omega
                have hdi : (j : Int) - (k : Int) = (d : Int) := by omega
                have hle : (k : Int) ≤ (j : Int) := by omega
                have hd1 : (0 : Int) ≤ (d : Int) := by omega
                have hd2 : (d : Int) < (n : Int) := by omega
                have hwr : IntKind.i64.wrap (d : Int) = (d : Int) := Go.IntWalk.i64_in _ (by omega)
                obtain ⟨y, hy⟩ : ∃ y, y = l[d]'hdl := ⟨_, rfl⟩
                rw [show l.getD (j + 1 - 1 - k) 0 = y by rw [hy, show j + 1 - 1 - k = d by omega]; simp [List.getD, hdl]] at hM
                have hyc : ∀ w', Below w.heap.size w w' → w'.cell? (p0.add d) = some (bv y) := fun w' h => by
                  obtain ⟨q, e, hc⟩ := (HR.out.below h).at d hdl
                  cases e
                  rw [hy]
                  exact hc
                have hg := get_some _ _ _ _ (49 + k) M5 wr hregk (by omega) false [y] (by rw [gk_ring _ _ hk9]; exact hM)
                rw [gk_ring _ _ hk9] at hg
                have HG := Lib.hid hg
                have HYC := Lib.hid hyc
                clear hg hyc hM hregk hd hy
                go_wp2_with fail
                refine HG.out.mono ?_
                rintro e w7 ⟨v7, rfl, ho7, hb7⟩
                obtain ⟨g7, c7, rfl, -, -, -, -⟩ := ho7.pos (by simp)
                have hbx : Below w7.heap.size w7 (w7.alloc (.cells #[.int .u8 (49 + (k : Int)), .bool false, .slice (some ⟨g7, 0, none⟩) 1 c7] 28)) := (Below.refl _ w7).alloc (Nat.le_refl _) _
                have hkx : (w7.alloc (.cells #[.int .u8 (49 + (k : Int)), .bool false, .slice (some ⟨g7, 0, none⟩) 1 c7] 28)).heap[w7.heap.size]? = _ := alloc_new _ _ _ rfl
                have hb7x := hb7.trans (hbx.mono hb7.size)
                have hcy := (ho7.alloc (.cells #[.int .u8 (49 + (k : Int)), .bool false, .slice (some ⟨g7, 0, none⟩) 1 c7] 28)).cell 0 (by simp)
                have hcy2 : (w7.alloc (.cells #[.int .u8 (49 + (k : Int)), .bool false, .slice (some ⟨g7, 0, none⟩) 1 c7] 28)).cell? ⟨g7, 0, none⟩ = some (bv y) := hcy
                have hbw7 := below_then hbbk hb7x hbbk.size
                have hcl := HYC.out _ hbw7
                have gx := cell_blk hkx
                have hbk7 := below_then hbk hb7x hbk.size
                unfold bv at hcy2 hcl
                obtain ⟨yn, hyn⟩ : ∃ m : Nat, m = y.toNat := ⟨_, rfl⟩
                rw [← hyn] at hcy2 hcl
                have hyy : (((yn : Nat) : Int) != ((yn : Nat) : Int)) = false := by simp
                clear ho7 hb7 hbx hkx hb7x hcy hyn HG HYC
                go_wp2
                go_quiet (fail)
                go_wp2
                exact ⟨⟨k + 1, by omega, by first | go_num | (simp; done), below_drewN hbk7 _⟩, by simp [intOf]; omega⟩
              case neg =>
                rw [if_neg hkj] at hM
                have hg := get_none _ _ _ _ (49 + k) M5 wr hregk (by omega) (by rw [gk_ring _ _ hk9]; exact hM)
                have HG := Lib.hid hg
                have hle : ¬ (k : Int) ≤ (j : Int) := by omega
                have hle2 : decide (k ≤ j) = false := decide_eq_false (by omega)
                clear hg hM hregk
                go_wp2_with fail
                refine HG.out.mono ?_
                rintro e w7 ⟨rfl, hb7⟩
                have hbx : Below w7.heap.size w7 (w7.alloc (.cells #[.int .u8 0, .bool false, .slice none 0 0] 28)) := (Below.refl _ w7).alloc (Nat.le_refl _) _
                have hkx : (w7.alloc (.cells #[.int .u8 0, .bool false, .slice none 0 0] 28)).heap[w7.heap.size]? = _ := alloc_new _ _ _ rfl
                have hb7x := hb7.trans (hbx.mono hb7.size)
                have hbk7 := below_then hbk hb7x hbk.size
                have gx := cell_blk hkx
                clear hb7 hbx hkx hb7x HG
                go_wp2
                go_quiet (fail)
                go_wp2
                exact ⟨⟨k + 1, by omega, by first | go_num | (simp; done), below_drewN hbk7 _⟩, by simp [intOf]; omega⟩
            · obtain rfl : k = 9 := by omega
              have hregk2 := Lib.hid hregk
              clear hregk
              go_wp2
              exact ⟨⟨j + 1, by omega, by first | go_num | (simp; done), ⟨M5, nm5, hregk2.out, HD5.out⟩, hbbk⟩, by simp [intOf]; omega⟩
        case true =>
          have hba : Below w3.heap.size w3 (w3.alloc (.cells #[.int .u8 121] 5)) := (Below.refl _ w3).alloc (Nat.le_refl _) _
          have hs3 := hr3.lt
          have hy := yank_any _ _ _ _ 0 false (some ⟨w3.heap.size, 0, none⟩) 1 1 [121] M1 _ (hr3.below hba) (by omega) (by omega) (Rd_lit w3 5 [121] (fr := (0, 0)) (by simp [maxLen])) (Nat.le_refl _) (by omega) (fun h => by omega)
          rw [yk0, set48, rk_k', rk_n'] at hy
          have HY := Lib.hid hy
          have hbba := below_then hbb3 hba hbb3.size
          clear hr3 hba hy hp0 HDEL
          go_wp2_with fail
          refine HY.out.mono ?_
          rintro e w4 ⟨rfl, hr4, hc4⟩
          have hbb4 := below_chg2 hbba hc4 (by omega) hB (Nat.le_refl _)
          have hba : Below w4.heap.size w4 (w4.alloc (.cells #[.int .u8 122] 5)) := (Below.refl _ w4).alloc (Nat.le_refl _) _
          have hs4 := hr4.lt
          have hy := yank_any _ _ _ _ 97 true (some ⟨w4.heap.size, 0, none⟩) 1 1 [122] _ _ (hr4.below hba) (by omega) (by omega) (Rd_lit w4 5 [122] (fr := (0, 0)) (by simp [maxLen])) (Nat.le_refl _) (by omega) (fun h => by omega)
          rw [yk97, set97] at hy
          have HY2 := Lib.hid hy
          have hbba := below_then hbb4 hba hbb4.size
          clear hr4 hba hy hc4
          go_wp2_with fail
          refine HY2.out.mono ?_
          rintro e w5 ⟨rfl, hr5, hc5⟩
          have hbb5 := below_chg2 hbba hc5 (by omega) hB (Nat.le_refl _)
          obtain ⟨M5, nm5, HR5, HD5⟩ : ∃ M5 nm5, Hid (RegIs w5 (b + 1) b (12 * (j + 1)) M5 nm5) ∧ Hid (RingAt l (j + 1) M5) := ⟨_, _, Lib.hid (hr5.mono (show 12 * j + 9 + 1 + 1 ≤ 12 * (j + 1) by omega)), Lib.hid (ring_upd _ _ _ _ _ (ring_upd _ _ _ _ _ HD.out (.inl (by omega))) (.inr (by omega)))⟩
          clear hr5 hc5 hbba HY HY2 HD

          go_wp2
          go_loopw [7] (fun i wr => ∃ k : Nat, k ≤ 9 ∧ i = .int .i64 k ∧ Below w5.heap.size w5 wr) (fun i _ => 9 - (intOf i).toNat)
          case atStart => exact ⟨0, by omega, rfl, Below.refl _ _⟩
          case round =>
            obtain ⟨k, hk, rfl, hbk⟩ := hrel
            have hregk := HR5.out.below hbk
            have hbbk := below_then hbb5 hbk hbb5.size
            by_cases hk9 : k < 9
            · have hM := HD5.out k hk9
              by_cases hkj : k < j + 1
              case pos =>
                rw [if_pos hkj] at hM
                obtain ⟨d, hd⟩ : ∃ d, d = j - k := ⟨_, rfl⟩
                have hdl : d < l.length := by omega
                have hdi : (j : Int) - (k : Int) = (d : Int) := by omega
                have hle : (k : Int) ≤ (j : Int) := by omega
                have hd1 : (0 : Int) ≤ (d : Int) := by omega
                have hd2 : (d : Int) < (n : Int) := by omega
                have hwr : IntKind.i64.wrap (d : Int) = (d : Int) := Go.IntWalk.i64_in _ (by omega)
                obtain ⟨y, hy⟩ : ∃ y, y = l[d]'hdl := ⟨_, rfl⟩
                rw [show l.getD (j + 1 - 1 - k) 0 = y by rw [hy, show j + 1 - 1 - k = d by omega]; simp [List.getD, hdl]] at hM
                have hyc : ∀ w', Below w.heap.size w w' → w'.cell? (p0.add d) = some (bv y) := fun w' h => by
                  obtain ⟨q, e, hc⟩ := (HR.out.below h).at d hdl
                  cases e
                  rw [hy]
                  exact hc
                have hg := get_some _ _ _ _ (49 + k) M5 wr hregk (by omega) false [y] (by rw [gk_ring _ _ hk9]; exact hM)
                rw [gk_ring _ _ hk9] at hg
                have HG := Lib.hid hg
                have HYC := Lib.hid hyc
                clear hg hyc hM hregk hd hy
                go_wp2_with fail
                refine HG.out.mono ?_
                rintro e w7 ⟨v7, rfl, ho7, hb7⟩
                obtain ⟨g7, c7, rfl, -, -, -, -⟩ := ho7.pos (by simp)
                have hbx : Below w7.heap.size w7 (w7.alloc (.cells #[.int .u8 (49 + (k : Int)), .bool false, .slice (some ⟨g7, 0, none⟩) 1 c7] 28)) := (Below.refl _ w7).alloc (Nat.le_refl _) _
                have hkx : (w7.alloc (.cells #[.int .u8 (49 + (k : Int)), .bool false, .slice (some ⟨g7, 0, none⟩) 1 c7] 28)).heap[w7.heap.size]? = _ := alloc_new _ _ _ rfl
                have hb7x := hb7.trans (hbx.mono hb7.size)
                have hcy := (ho7.alloc (.cells #[.int .u8 (49 + (k : Int)), .bool false, .slice (some ⟨g7, 0, none⟩) 1 c7] 28)).cell 0 (by simp)
                have hcy2 : (w7.alloc (.cells #[.int .u8 (49 + (k : Int)), .bool false, .slice (some ⟨g7, 0, none⟩) 1 c7] 28)).cell? ⟨g7, 0, none⟩ = some (bv y) := hcy
                have hbw7 := below_then hbbk hb7x hbbk.size
                have hcl := HYC.out _ hbw7
                have gx := cell_blk hkx
                have hbk7 := below_then hbk hb7x hbk.size
                unfold bv at hcy2 hcl
                obtain ⟨yn, hyn⟩ : ∃ m : Nat, m = y.toNat := ⟨_, rfl⟩
                rw [← hyn] at hcy2 hcl
                have hyy : (((yn : Nat) : Int) != ((yn : Nat) : Int)) = false := by simp
                clear ho7 hb7 hbx hkx hb7x hcy hyn HG HYC
                go_wp2
                go_quiet (fail)
                go_wp2
                exact ⟨⟨k + 1, by omega, by first | go_num | (simp; done), below_drewN hbk7 _⟩, by simp [intOf]; omega⟩
              case neg =>
                rw [if_neg hkj] at hM
                have hg := get_none _ _ _ _ (49 + k) M5 wr hregk (by omega) (by rw [gk_ring _ _ hk9]; exact hM)
                have HG := Lib.hid hg
                have hle : ¬ (k : Int) ≤ (j : Int) := by omega
                have hle2 : decide (k ≤ j) = false := decide_eq_false (by omega)
                clear hg hM hregk
                go_wp2_with fail
                refine HG.out.mono ?_
                rintro e w7 ⟨rfl, hb7⟩
                have hbx : Below w7.heap.size w7 (w7.alloc (.cells #[.int .u8 0, .bool false, .slice none 0 0] 28)) := (Below.refl _ w7).alloc (Nat.le_refl _) _
                have hkx : (w7.alloc (.cells #[.int .u8 0, .bool false, .slice none 0 0] 28)).heap[w7.heap.size]? = _ := alloc_new _ _ _ rfl
                have hb7x := hb7.trans (hbx.mono hb7.size)
                have hbk7 := below_then hbk hb7x hbk.size
                have gx := cell_blk hkx
                clear hb7 hbx hkx hb7x HG
                go_wp2
                go_quiet (fail)
                go_wp2
                exact ⟨⟨k + 1, by omega, by first | go_num | (simp; done), below_drewN hbk7 _⟩, by simp [intOf]; omega⟩
            · obtain rfl : k = 9 := by omega
              have hregk2 := Lib.hid hregk
              clear hregk
              go_wp2
              exact ⟨⟨j + 1, by omega, by first | go_num | (simp; done), ⟨M5, nm5, hregk2.out, HD5.out⟩, hbbk⟩, by simp [intOf]; omega⟩
      · obtain rfl : j = n := by omega
        go_wp2
        go_ret
        exact ⟨rfl, hbr⟩
end Go.Proofs.Ytleicgigkbfnbaa
