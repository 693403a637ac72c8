/- Law 9: PoolFull. -/
import Derived.Test.YtocepcibcapfbaaJ52
import Derived.Laws.Bits128
namespace Go.Proofs.Ytocepcibcapfbaa
set_option linter.unusedVariables false
set_option linter.unusedSimpArgs false
open Go.RowKit

def FkR (w0 : World) (p d N k : Nat) (wr : World) : Prop := ∃ x : P.Po, PoL w0.heap.size k w0 wr p d 20 N x ∧ P.Fk N 20 k x ∧ x.d.ops ≤ 2 * k
def FlR9 (w0 : World) (p d N k : Nat) (wr : World) : Prop := ∃ x : P.Po, PoL w0.heap.size (N + 2 * k) w0 wr p d 20 N x ∧ P.Fl N 20 x ∧ x.d.ops ≤ 2 * N + 3 * k
theorem and15 (n : Int) : bits .and .i64 n 15 = n % 16 := by
  have h15 : (BitVec.ofInt 64 15).toNat = 2 ^ 4 - 1 := by decide
  have key : (BitVec.ofInt 64 n &&& BitVec.ofInt 64 15).toNat = (n % ((2 ^ 64 : Nat) : Int)).toNat % 2 ^ 4 := by
    rw [BitVec.toNat_and, BitVec.toNat_ofInt, h15, Nat.and_two_pow_sub_one_eq_mod]
  show IntKind.i64.wrap ((BitVec.ofInt 64 n &&& BitVec.ofInt 64 15).toNat : Nat) = n % 16
  rw [key, IntKind.wrap_i64]
  omega
set_option maxRecDepth 100000 in
set_option maxHeartbeats 6400000 in
theorem poolFull_walk (fr : Int) (a : Option Addr) (n cap : Nat) (l : List Int) (w : World) (hfr : -9223372036854775808 ≤ fr ∧ fr ≤ 9223372036854775807) (hl : RI w a n l) (hcap : n ≤ cap) : Calls Try.prog 6 #[.int .i64 fr, .slice a n cap] w fun e w' => e = .returned (.bool true) ∧ Below w.heap.size w w' := by
  have HA := Lib.hid (awake9_any w)
  have HL := Lib.hid hl
  have HLN := Lib.hid hl.len
  clear hl
  by_cases hin : 8 ≤ fr ∧ fr ≤ 15 ∧ n ≤ 100
  rotate_left
  · by_cases h1 : fr < 8
    · clear hin
      go_enter Try.func6, Try.ntmps6
      go_wp2_with (go_at_call 7; refine HA.out.mono ?_; rintro e w1 ⟨rfl, hb1⟩; have HB1 := Lib.hid hb1; clear hb1)
      go_ret
      exact ⟨rfl, HB1.out⟩
    have g1 : 8 ≤ fr := by omega
    by_cases h2 : 15 < fr
    · clear hin
      go_enter Try.func6, Try.ntmps6
      go_wp2_with (go_at_call 7; refine HA.out.mono ?_; rintro e w1 ⟨rfl, hb1⟩; have HB1 := Lib.hid hb1; clear hb1)
      go_ret
      exact ⟨rfl, HB1.out⟩
    have g2 : fr ≤ 15 := by omega
    have g3 : (100 : Int) < (n : Int) := by omega
    clear hin h1 h2
    go_enter Try.func6, Try.ntmps6
    go_wp2_with (go_at_call 7; refine HA.out.mono ?_; rintro e w1 ⟨rfl, hb1⟩; have HB1 := Lib.hid hb1; clear hb1)
    go_ret
    exact ⟨rfl, HB1.out⟩
  obtain ⟨g1, g2, g3⟩ := hin
  have g4 : (n : Int) ≤ 100 := by omega
  obtain ⟨N, rfl⟩ : ∃ N : Nat, fr = (N : Int) := ⟨fr.toNat, by omega⟩
  have n8 : 8 ≤ N := by omega
  have n15 : N ≤ 15 := by omega
  clear hfr
  go_enter Try.func6, Try.ntmps6
  go_wp2_with fail
  refine HA.out.mono ?_
  rintro e w1 ⟨rfl, hb1⟩
  have HB1 := Lib.hid hb1
  have H1 := Lib.hid (lnew w w1 20 hb1 (by omega) (by omega))
  clear hb1
  go_wp2_with fail
  refine H1.out.mono ?_
  rintro e w2 ⟨d, rfl, hD, hb2⟩
  have H2 := Lib.hid (lpool w w2 d 20 N hb2 hD (by omega) (by omega) (by omega))
  clear hD hb2
  go_wp2_with fail
  refine H2.out.mono ?_
  rintro e w3 ⟨p, rfl, hP⟩
  have HST := Lib.hid (show FkR w p d N 0 w3 from ⟨_, hP, ⟨⟨List.nodup_nil, fun f hf => by simp at hf, Nat.zero_le _, dv0_img 20⟩, dv0_well 20, rfl, fun f hf => by simp at hf⟩, Nat.le_refl _⟩)
  clear hP
  go_wp2
  go_loopw [9] (fun s9 wr => ∃ k : Nat, k ≤ N ∧ s9 = .int .i64 k ∧ FkR w p d N k wr) (fun s9 _ => N - (ivOf s9).toNat)
  case atStart => exact ⟨0, by omega, rfl, HST.out⟩
  case round =>
    obtain ⟨k, hk, rfl, x, hP, hF, ho⟩ := hrel
    by_cases hlt : k < N
    · have i0 : (0 : Int) ≤ (k : Int) := by omega
      have i1 : (k : Int) < (N : Int) := by omega
      have h2 := hF.pin hlt (by omega)
      have o1 := P.pin_ops N 20 x (k : Int)
      have HPIN := Lib.hid (lpin hP (k : Int) (by unfold inI; omega) (by omega) (by omega) 0 _ h2.1 rfl)
      have HX := Lib.hid (And.intro h2.2 (show (x.pinP N 20 (k : Int)).d.ops ≤ 2 * (k + 1) by omega))
      clear hP hF ho h2 o1
      go_wp2_with fail
      refine HPIN.out.mono ?_
      rintro e w4 ⟨a4, m4, c4, rfl, -, -, hG⟩
      have HN := Lib.hid (show FkR w p d N (k + 1) w4 from ⟨_, hG.pool, HX.out.1, HX.out.2⟩)
      clear hG
      go_wp2
      exact ⟨⟨k + 1, by omega, by go_num, HN.out⟩, by simp [ivOf]; omega⟩
    · obtain rfl : k = N := by omega
      have HS2 := Lib.hid (show FlR9 w p d k 0 wr from ⟨x, hP, hF.full, ho⟩)
      clear hP hF ho
      go_wp2
      go_loopw [12] (fun s12 wr => ∃ i : Nat, i ≤ n ∧ s12 = .int .i64 i ∧ FlR9 w p d k i wr) (fun s12 _ => n - (ivOf s12).toNat)
      case atStart => exact ⟨0, by omega, rfl, HS2.out⟩
      case round =>
        obtain ⟨i, hi, rfl, y, hP, hF, ho⟩ := hrel
        by_cases hlt2 : i < n
        · have i0 : (0 : Int) ≤ (i : Int) := by omega
          have i1 : (i : Int) < (n : Int) := by omega
          obtain ⟨q, hq, hc⟩ := (HL.out.below (hP.1)).at i (by rw [HLN.out]; exact hlt2)
          subst hq
          generalize l[i]'(by rw [HLN.out]; exact hlt2) = v at hc
          have hand := and15 v
          obtain ⟨m, hm⟩ : ∃ m : Nat, v % 16 = (m : Int) := ⟨(v % 16).toNat, by omega⟩
          have hm16 : m < 16 := by omega
          rw [hm] at hand
          have j0 : (0 : Int) ≤ (m : Int) := by omega
          have j1 : (m : Int) < 16 := by omega
          have o1 := P.pin_ops k 20 y (m : Int)
          have h2 := hF.pin m (by omega)
          obtain ⟨y1, hy1⟩ : ∃ y1, y1 = y.pinP k 20 (m : Int) := ⟨_, rfl⟩
          rw [← hy1] at h2 o1
          have HPIN := Lib.hid (lpin hP (m : Int) (by unfold inI; omega) (by omega) (by omega) _ _ h2.1 rfl)
          rw [← hy1] at HPIN
          have HX := Lib.hid (And.intro h2.2 (show y1.d.ops ≤ 2 * k + 3 * i + 2 by omega))
          clear hP hF ho h2 o1 hy1 hm
          by_cases hmk : m < k
          · rw [if_pos hmk] at HPIN
            have q1 : (m : Int) < (k : Int) := by omega
            go_wp2_with fail
            refine HPIN.out.mono ?_
            rintro e w4 ⟨a4, m4, c4, rfl, -, -, hG⟩
            have HG := Lib.hid hG
            have HPG := Lib.hid (page5_int 1 1 (by omega) (by omega) w4)
            clear hG
            go_wp2_with fail
            refine HPG.out.mono ?_
            rintro e w5 ⟨a5, c5, b, rfl, hr, hbl, -, hb5⟩
            have hp2 := HX.out.1.put m (by omega) b hbl
            have o2 := P.put_ops k 20 y1 (m : Int) b
            have h0 := HX.out.2
            obtain ⟨y2, hy2⟩ : ∃ y2, y2 = y1.putP k 20 (m : Int) b := ⟨_, rfl⟩
            have HPUT := Lib.hid (lput (HG.out.pool.below hb5).pool (m : Int) (by unfold inI; omega) a5 256 c5 b hr (by omega) (by omega) (by omega) _ hp2.1)
            rw [← hy2] at HPUT hp2 o2
            rw [if_pos hmk] at HPUT
            have HY := Lib.hid (And.intro hp2.2 (show y2.d.ops ≤ 2 * k + 3 * (i + 1) by omega))
            clear hr hbl hb5 hp2 o2 hy2 h0
            go_wp2_with fail
            refine HPUT.out.mono ?_
            rintro e w6 ⟨rfl, hG6⟩
            have HEV := Lib.hid (levict hG6.pool 3 (by omega) (by have := HY.out.2; omega) 0 (HY.out.1.evict 3).1)
            rw [show P.evP (3 : Int).toNat y2 = y2 from (HY.out.1.evict 3).2] at HEV
            clear hG6
            go_wp2_with fail
            refine HEV.out.mono ?_
            rintro e w7 ⟨rfl, hG7⟩
            have HFO := Lib.hid (lforget hG7.pool (m : Int) (by unfold inI; omega) false (HY.out.1.forget m).1)
            rw [(HY.out.1.forget m).2] at HFO
            clear hG7
            go_wp2_with fail
            refine HFO.out.mono ?_
            rintro e w8 ⟨rfl, hG8⟩
            have HRS := Lib.hid (lresident hG8.pool)
            rw [HY.out.1.res (by omega)] at HRS
            have HG8 := Lib.hid hG8
            clear hG8
            go_wp2_with fail
            refine HRS.out.mono ?_
            rintro e w9 ⟨a9, c9, rfl, -, -, hb9⟩
            have HPI := Lib.hid (lpinned (HG8.out.pool.below hb9).pool)
            rw [HY.out.1.pinned] at HPI
            have HG9 := Lib.hid (HG8.out.pool.below hb9).pool
            clear hb9
            go_wp2_with fail
            refine HPI.out.mono ?_
            rintro e w10 ⟨rfl, hb10⟩
            have HN := Lib.hid (show FlR9 w p d k (i + 1) w10 from ⟨y2, (HG9.out.below hb10).pool, HY.out.1, HY.out.2⟩)
            clear hb10
            go_wp2
            exact ⟨⟨i + 1, by omega, by go_num, HN.out⟩, by simp [ivOf]; omega⟩
          · rw [if_neg hmk] at HPIN
            have q1 : (k : Int) ≤ (m : Int) := by omega
            go_wp2_with fail
            refine HPIN.out.mono ?_
            rintro e w4 ⟨a4, m4, c4, rfl, -, -, hG⟩
            have HG := Lib.hid hG
            have HPG := Lib.hid (page5_int 1 1 (by omega) (by omega) w4)
            clear hG
            go_wp2_with fail
            refine HPG.out.mono ?_
            rintro e w5 ⟨a5, c5, b, rfl, hr, hbl, -, hb5⟩
            have hp2 := HX.out.1.put m (by omega) b hbl
            have o2 := P.put_ops k 20 y1 (m : Int) b
            have h0 := HX.out.2
            obtain ⟨y2, hy2⟩ : ∃ y2, y2 = y1.putP k 20 (m : Int) b := ⟨_, rfl⟩
            have HPUT := Lib.hid (lput (HG.out.pool.below hb5).pool (m : Int) (by unfold inI; omega) a5 256 c5 b hr (by omega) (by omega) (by omega) _ hp2.1)
            rw [← hy2] at HPUT hp2 o2
            rw [if_neg hmk] at HPUT
            have HY := Lib.hid (And.intro hp2.2 (show y2.d.ops ≤ 2 * k + 3 * (i + 1) by omega))
            clear hr hbl hb5 hp2 o2 hy2 h0
            go_wp2_with fail
            refine HPUT.out.mono ?_
            rintro e w6 ⟨rfl, hG6⟩
            have HEV := Lib.hid (levict hG6.pool 3 (by omega) (by have := HY.out.2; omega) 0 (HY.out.1.evict 3).1)
            rw [show P.evP (3 : Int).toNat y2 = y2 from (HY.out.1.evict 3).2] at HEV
            clear hG6
            go_wp2_with fail
            refine HEV.out.mono ?_
            rintro e w7 ⟨rfl, hG7⟩
            have HFO := Lib.hid (lforget hG7.pool (m : Int) (by unfold inI; omega) false (HY.out.1.forget m).1)
            rw [(HY.out.1.forget m).2] at HFO
            clear hG7
            go_wp2_with fail
            refine HFO.out.mono ?_
            rintro e w8 ⟨rfl, hG8⟩
            have HRS := Lib.hid (lresident hG8.pool)
            rw [HY.out.1.res (by omega)] at HRS
            have HG8 := Lib.hid hG8
            clear hG8
            go_wp2_with fail
            refine HRS.out.mono ?_
            rintro e w9 ⟨a9, c9, rfl, -, -, hb9⟩
            have HPI := Lib.hid (lpinned (HG8.out.pool.below hb9).pool)
            rw [HY.out.1.pinned] at HPI
            have HG9 := Lib.hid (HG8.out.pool.below hb9).pool
            clear hb9
            go_wp2_with fail
            refine HPI.out.mono ?_
            rintro e w10 ⟨rfl, hb10⟩
            have HN := Lib.hid (show FlR9 w p d k (i + 1) w10 from ⟨y2, (HG9.out.below hb10).pool, HY.out.1, HY.out.2⟩)
            clear hb10
            go_wp2
            exact ⟨⟨i + 1, by omega, by go_num, HN.out⟩, by simp [ivOf]; omega⟩
        · obtain rfl : i = n := by omega
          have HB := Lib.hid hP.1
          clear hP hF ho
          go_wp2
          go_ret
          exact ⟨rfl, HB.out⟩
end Go.Proofs.Ytocepcibcapfbaa
