/- The walk of the law PageBack. -/
import Derived.Test.YtjhiiikijpalhaaLawP
import Derived.Test.YtjhiiikijpalhaaPage2
import Derived.Test.YtjhiiikijpalhaaLawC
namespace Go.Proofs.Ytjhiiikijpalhaa
set_option linter.unusedVariables false
set_option linter.unusedSimpArgs false
open Go.RowKit

set_option maxRecDepth 100000 in
set_option maxHeartbeats 3200000 in
theorem pageBack_walk (k l c : Int) (a : Option Addr) (n m : Nat) (b : List UInt8) (bit : Int) (w : World)
    (_hk : -9223372036854775808 ≤ k ∧ k ≤ 9223372036854775807) (_hl : -9223372036854775808 ≤ l ∧ l ≤ 9223372036854775807) (_hc : -9223372036854775808 ≤ c ∧ c ≤ 9223372036854775807)
    (hr : Rd w a n b) (_hm : n ≤ m) (hbit : -9223372036854775808 ≤ bit ∧ bit ≤ 9223372036854775807) :
    Calls Try.prog 10 #[.agg #[.int .i64 k, .int .i64 l, .int .i64 c, .slice a n m], .int .i64 bit] w fun e w' => e = .returned (.bool true) ∧ Below w.heap.size w w' := by
  obtain rfl := hr.1
  have HR := Lib.hid hr
  clear hr _hk _hl _hc
  by_cases hg : b.length ≤ 2000
  case neg =>
    have c1 : decide (2000 < (b.length : Int)) = true := decide_eq_true (by omega)
    clear hg
    go_enter Try.func10, Try.ntmps10
    go_wp2_with fail
    refine (awake6_any _).mono ?_
    rintro e w1 ⟨rfl, hb1⟩
    have hb := below_alloc1 hb1
    have hk := made_below hb1
    have g := cell_blk hk
    clear hk hb1
    go_wp2_with fail
    refine (awake6_any _).mono ?_
    rintro e w2 ⟨rfl, hb2⟩
    go_wp2
    go_ret
    exact ⟨rfl, below_then hb hb2 hb.size⟩
  case pos =>
    have c1 : decide (2000 < (b.length : Int)) = false := decide_eq_false (by omega)
    by_cases he : P.sealErr k l c b.length = 0
    case neg =>
      have c2 : (P.sealErr k l c b.length != 0) = true := by rw [bne_iff_ne]; exact he
      clear he
      go_enter Try.func10, Try.ntmps10
      go_wp2_with fail
      refine (awake6_any _).mono ?_
      rintro e w1 ⟨rfl, hb1⟩
      have hb := below_alloc1 hb1
      have hk := made_below hb1
      have g := cell_blk hk
      clear hk hb1
      go_wp2_with fail
      refine (seal_fun _ _ _ _ _ _ b _ (HR.out.below hb)).mono ?_
      rintro e w2 ⟨v2, rfl, ho2, hb2⟩
      obtain ⟨a3, p3, hv2, -, -, -, -⟩ := ho2.form
      subst hv2
      have hb2' := below_then hb hb2 hb.size
      clear ho2 hb2 g
      go_wp2_with fail
      refine (awake6_any _).mono ?_
      rintro e w3 ⟨rfl, hb3⟩
      go_wp2
      go_ret
      exact ⟨rfl, below_then hb2' hb3 hb2'.size⟩
    case pos =>
      have hz := P.sealErr_zero he
      obtain ⟨hk1, hk2, hl1, hl2, hc1, hc2, hb248⟩ := hz
      obtain ⟨o1, o2, o3, o4, o5⟩ := P.page_open he
      obtain ⟨K, hK⟩ : ∃ K, K = P.page k.toNat l.toNat c.toNat b := ⟨_, rfl⟩
      rw [← hK] at o1 o2 o3 o4 o5
      have hKl : K.length = 256 := by rw [hK]; exact P.page_length _ _ _ _ hb248
      have HK := Lib.hid hK
      have O1 := Lib.hid o1
      have o2' : ((P.openKind K : Nat) : Int) = k := by rw [o2]; omega
      have o3' : ((P.openLevel K : Nat) : Int) = l := by rw [o3]; omega
      have o4' : ((P.openCount K : Nat) : Int) = c := by rw [o4]; omega
      have O2 := Lib.hid o2'
      have O3 := Lib.hid o3'
      have O4 := Lib.hid o4'
      have O5 := Lib.hid o5
      have HKl := Lib.hid hKl
      have t1 : -2048 < bit.tmod 2048 := by
        have := Int.lt_tmod_of_pos bit (show (0 : Int) < 2048 by omega)
        omega
      have t2 : bit.tmod 2048 < 2048 := Int.tmod_lt_of_pos bit (by omega)
      have HE := Lib.hid he
      clear he hK o1 o2 o3 o4 o5 hKl o2' o3' o4'
      go_enter Try.func10, Try.ntmps10
      go_wp2_with fail
      refine (awake6_any _).mono ?_
      rintro e w1 ⟨rfl, hb1⟩
      have hb := below_alloc1 hb1
      have hk := made_below hb1
      have HB1 := Lib.hid hk
      have hlt1 := lt_of_block hk
      have g := cell_blk hk
      clear hk hb1
      go_wp2_with fail
      refine (seal_ok _ _ _ _ _ _ b _ (HR.out.below hb) HE.out).mono ?_
      rintro e w2 ⟨v2, rfl, ho2, hb2⟩
      rw [← HK.out] at ho2
      have hb2' := below_then hb hb2 hb.size
      obtain ⟨gb, p3, hv2, hgB, hgl, hr3, hcap⟩ := ho2.pos (by rw [HKl.out]; omega)
      rw [HKl.out] at hv2 hr3 hcap
      subst hv2
      have HO2 := Lib.hid ho2
      have HR3 := Lib.hid hr3
      have hk2 := (hb2.block _ hlt1).trans HB1.out
      have HB2 := Lib.hid hk2
      have hlt2 := lt_of_block hk2
      clear ho2 hr3 g hk2
      go_wp2_with fail
      refine (open_any _ _ _ K _ HR3.out hcap).mono ?_
      rintro e w3 ⟨hb3, ⟨h, -⟩ | ⟨-, v3, rfl, ho3⟩⟩
      · exact absurd O1.out h
      rw [O2.out, O3.out, O4.out]
      have hb3' := below_then hb2' hb3 hb2'.size
      obtain ⟨gq, pq, hv3, hqB, hql, hr4, hcap4⟩ := ho3.pos (by rw [O5.out]; simp; omega)
      have hql2 : (P.openBody K).length = 248 := by rw [O5.out]; simp; omega
      rw [hql2] at hv3 hr4 hcap4
      rw [O5.out] at hr4
      subst hv3
      have HR4 := Lib.hid hr4
      have hk3 := (hb3.block _ hlt2).trans HB2.out
      have HB3 := Lib.hid hk3
      have hlt3 := lt_of_block hk3
      have hO3 := HO2.out.below hb3
      clear ho3 hr4 hk3 hql2
      obtain ⟨B, hB⟩ : ∃ B : Nat, (bit.tmod 2048 + 2048) % 2048 = (B : Int) := Int.eq_ofNat_of_zero_le (Int.emod_nonneg _ (by omega))
      have hB2 : B < 2048 := by
        have : (bit.tmod 2048 + 2048) % 2048 < 2048 := Int.emod_lt_of_pos _ (by omega)
        omega
      have hcell : w3.cell? ⟨gb, B / 8, none⟩ = some (.int .u8 ((K[B / 8]'(by rw [HKl.out]; omega)).toNat : Int)) := hO3.cell (B / 8) (by rw [HKl.out]; omega)
      have hfree := hO3.free (B / 8)
      have hgb3 : gb < w3.heap.size := Nat.lt_of_lt_of_le hgl hb3.size
      have HO3 := Lib.hid hO3
      clear hO3
      go_wp2_with fail
      rw [flip_bits _ _ (Nat.mod_lt _ (by omega))]
      have hne := flip_ne (K[B / 8]'(by rw [HKl.out]; omega)) (B % 8) (Nat.mod_lt _ (by omega))
      obtain ⟨x, hx⟩ : ∃ x, x = flip (K[B / 8]'(by rw [HKl.out]; omega)) (B % 8) := ⟨_, rfl⟩
      rw [← hx] at hne ⊢
      obtain ⟨K', hK'⟩ : ∃ K', K' = K.set (B / 8) x := ⟨_, rfl⟩
      have hE5 : P.openErr K' = 5 := by rw [hK']; exact P.open_set K (B / 8) x (by rw [HKl.out]; omega) hne O1.out
      have hwB : w.heap.size < gb := by have := hb.size; omega
      have hst := HO3.out.stored (B / 8) x
      rw [← hK'] at hst
      have hbS : Below w.heap.size w (w3.setCell ⟨gb, B / 8, none⟩ (.int .u8 (x.toNat : Int))) := hb3'.setCell (by exact Nat.le_of_lt hwB) _
      have hr5 : Rd (w3.setCell ⟨gb, B / 8, none⟩ (.int .u8 (x.toNat : Int))) (some ⟨gb, 0, none⟩) 256 K' := by
        obtain ⟨a', c', hv', hr', -⟩ := hst.form
        simp only [Value.slice.injEq] at hv'
        rw [← hv'.1, ← hv'.2.1] at hr'
        exact hr'
      have hgq : gq ≠ gb := by omega
      have hr6 : Rd (w3.setCell ⟨gb, B / 8, none⟩ (.int .u8 (x.toNat : Int))) (some ⟨gq, 0, none⟩) 248 (b ++ List.replicate (248 - b.length) 0) :=
        HR4.out.chg (S := fun i => i = gb) ((Chg.refl (fun i => i = gb) w3).setCell _ _ (.inr rfl)) (by intro p hp; cases hp; exact hgq)
      have hkS : (w3.setCell ⟨gb, B / 8, none⟩ (.int .u8 (x.toNat : Int))).heap[w.heap.size]? = _ := blk_other HB3.out _ (by exact Nat.ne_of_lt hwB) _
      have hszS : (w3.setCell ⟨gb, B / 8, none⟩ (.int .u8 (x.toNat : Int))).heap.size = w3.heap.size := by simp [World.setCell]
      have HSZ := Lib.hid hszS
      generalize w3.setCell ⟨gb, B / 8, none⟩ (.int .u8 (x.toNat : Int)) = wS at *
      have hb4 : Below w.heap.size w (wS.alloc (.cells #[.int .i64 k, .int .i64 l, .int .i64 c, .slice (some ⟨gq, 0, none⟩) 248 pq] 40)) := hbS.alloc hbS.size _
      have hr7 := hr5.below ((Below.refl _ wS).alloc (Nat.le_refl _) (.cells #[.int .i64 k, .int .i64 l, .int .i64 c, .slice (some ⟨gq, 0, none⟩) 248 pq] 40))
      have hr8 := hr6.below ((Below.refl _ wS).alloc (Nat.le_refl _) (.cells #[.int .i64 k, .int .i64 l, .int .i64 c, .slice (some ⟨gq, 0, none⟩) 248 pq] 40))
      have hp4 : (wS.alloc (.cells #[.int .i64 k, .int .i64 l, .int .i64 c, .slice (some ⟨gq, 0, none⟩) 248 pq] 40)).heap[w.heap.size]? = _ := alloc_old hkS _
      have hq4 : (wS.alloc (.cells #[.int .i64 k, .int .i64 l, .int .i64 c, .slice (some ⟨gq, 0, none⟩) 248 pq] 40)).heap[w3.heap.size]? = _ := alloc_new _ _ _ HSZ.out.symm
      generalize wS.alloc (.cells #[.int .i64 k, .int .i64 l, .int .i64 c, .slice (some ⟨gq, 0, none⟩) 248 pq] 40) = w4 at *
      have HR7 := Lib.hid hr7
      have HR8 := Lib.hid hr8
      have HP4 := Lib.hid hp4
      have HQ4 := Lib.hid hq4
      have HE5 := Lib.hid hE5
      clear hst hr5 hr6 hkS hszS hr7 hr8 hp4 hq4 hE5 hK' hx hne hcell hfree hbS
      refine (open_any _ _ _ K' _ HR7.out hcap).mono ?_
      rintro e w5 ⟨hb5, ⟨-, rfl⟩ | ⟨h, -⟩⟩
      case inr => rw [HE5.out] at h; omega
      rw [HE5.out]
      unfold zpage
      have hb5' := below_then hb4 hb5 hb4.size
      have hp5 := (hb5.block _ (lt_of_block HP4.out)).trans HP4.out
      have hq5 := (hb5.block _ (lt_of_block HQ4.out)).trans HQ4.out
      have HP5 := Lib.hid hp5
      have HQ5 := Lib.hid hq5
      have HR9 := Lib.hid (HR8.out.below hb5)
      have gp := cell_blk hp5
      have gqq := cell_blk hq5
      have hltp := lt_of_block hp5
      have hltq := lt_of_block hq5
      clear hp5 hq5 hb5
      go_wp2
      have hb6 : Below w.heap.size w (w5.alloc (.cells #[.int .i64 0, .int .i64 0, .int .i64 0, .slice none 0 0] 40)) := hb5'.alloc hb5'.size _
      have hp6 : (w5.alloc (.cells #[.int .i64 0, .int .i64 0, .int .i64 0, .slice none 0 0] 40)).heap[w.heap.size]? = _ := alloc_old HP5.out _
      have hq6 : (w5.alloc (.cells #[.int .i64 0, .int .i64 0, .int .i64 0, .slice none 0 0] 40)).heap[w3.heap.size]? = _ := alloc_old HQ5.out _
      have hr10 := HR9.out.below ((Below.refl _ w5).alloc (Nat.le_refl _) (.cells #[.int .i64 0, .int .i64 0, .int .i64 0, .slice none 0 0] 40))
      generalize w5.alloc (.cells #[.int .i64 0, .int .i64 0, .int .i64 0, .slice none 0 0] 40) = w6 at *
      have HP6 := Lib.hid hp6
      have HQ6 := Lib.hid hq6
      have HR10 := Lib.hid hr10
      have hltp6 := lt_of_block hp6
      have hltq6 := lt_of_block hq6
      have gp6 := cell_blk hp6
      have gq6 := cell_blk hq6
      clear hp6 hq6 hr10 gp gqq hltp hltq
      go_loop [11] (fun i => ∃ j : Nat, b.length ≤ j ∧ j ≤ 248 ∧ i = .int .i64 j) (fun i => 248 - (intOf i).toNat)
      case atStart => exact ⟨b.length, by omega, hb248, rfl⟩
      case round =>
        obtain ⟨j, hj1, hj2, rfl⟩ := hrel
        by_cases hlt : j < 248
        · have k0 : w6.cell? ⟨gq, j, none⟩ = some (.int .u8 0) := by
            obtain ⟨q, e, hq⟩ := HR10.out.at j (by simp; omega)
            cases e
            have e2 : ((⟨gq, 0, none⟩ : Addr).add j) = ⟨gq, j, none⟩ := by unfold Addr.add; split <;> simp_all
            rw [e2] at hq
            rw [hq]
            have e3 : (b ++ List.replicate (248 - b.length) 0)[j]'(by simp; omega) = (0 : UInt8) := by rw [List.getElem_append_right hj1]; simp
            rw [e3]
            rfl
          go_wp2
          exact ⟨⟨j + 1, by omega, by omega, by go_num⟩, by simp [intOf]; omega⟩
        · obtain rfl : j = 248 := by omega
          have i1 : (b.length : Int) ≤ 248 := by omega
          have i2 : (b.length : Int) ≤ (pq : Int) := by omega
          have kp : Hid (∀ w', Below w6.heap.size w6 w' → w'.cell? ⟨w.heap.size, 0, none⟩ = some (.int .i64 k) ∧ w'.cell? ⟨w.heap.size, 1, none⟩ = some (.int .i64 l) ∧ w'.cell? ⟨w.heap.size, 2, none⟩ = some (.int .i64 c) ∧ w'.cell? ⟨w.heap.size, 3, none⟩ = some (.slice a b.length m) ∧
              w'.cell? ⟨w3.heap.size, 0, none⟩ = some (.int .i64 k) ∧ w'.cell? ⟨w3.heap.size, 1, none⟩ = some (.int .i64 l) ∧ w'.cell? ⟨w3.heap.size, 2, none⟩ = some (.int .i64 c) ∧ w'.cell? ⟨w3.heap.size, 3, none⟩ = some (.slice (some ⟨gq, 0, none⟩) 248 pq)) := by
            intro w' h
            exact ⟨(h.cell (p := ⟨w.heap.size, 0, none⟩) hltp6).trans (gp6 0), (h.cell (p := ⟨w.heap.size, 1, none⟩) hltp6).trans (gp6 1), (h.cell (p := ⟨w.heap.size, 2, none⟩) hltp6).trans (gp6 2), (h.cell (p := ⟨w.heap.size, 3, none⟩) hltp6).trans (gp6 3),
              (h.cell (p := ⟨w3.heap.size, 0, none⟩) hltq6).trans (gq6 0), (h.cell (p := ⟨w3.heap.size, 1, none⟩) hltq6).trans (gq6 1), (h.cell (p := ⟨w3.heap.size, 2, none⟩) hltq6).trans (gq6 2), (h.cell (p := ⟨w3.heap.size, 3, none⟩) hltq6).trans (gq6 3)⟩
          have hT : b = (b ++ List.replicate (248 - b.length) 0).take b.length := by simp
          have HT10 : Hid (Rd w6 (some ⟨gq, 0, none⟩) b.length b) := by
            have h := HR10.out.take b.length hb248
            rw [← hT] at h
            exact h
          clear hT
          go_wp2
          go_region_held3 (fun w' => w'.cell? ⟨w.heap.size, 0, none⟩ = some (.int .i64 k) ∧ w'.cell? ⟨w.heap.size, 1, none⟩ = some (.int .i64 l) ∧ w'.cell? ⟨w.heap.size, 2, none⟩ = some (.int .i64 c) ∧ w'.cell? ⟨w.heap.size, 3, none⟩ = some (.slice a b.length m) ∧
              w'.cell? ⟨w3.heap.size, 0, none⟩ = some (.int .i64 k) ∧ w'.cell? ⟨w3.heap.size, 1, none⟩ = some (.int .i64 l) ∧ w'.cell? ⟨w3.heap.size, 2, none⟩ = some (.int .i64 c) ∧ w'.cell? ⟨w3.heap.size, 3, none⟩ = some (.slice (some ⟨gq, 0, none⟩) 248 pq))
            (first
              | go_keep
              | exact kp.out _ (below_of_drew hb7)
              | exact kp.out _ (below_then (below_of_drew hb7) hb8 hb7.size))
            (first
              | (go_at_call 21; refine (awake6_any _).mono ?_; rintro e w7 ⟨rfl, hb7⟩)
              | (go_at_call 20; refine (same_refl _ _ _ _ _ b _ (HT10.out.below (below_of_drew hb7)) (HR.out.below (hb6.trans ((below_of_drew hb7).mono hb6.size)))).mono ?_; rintro e w8 ⟨rfl, hb8⟩))
          go_wp2
          go_ret
          exact ⟨rfl, hb6.trans ((below_then (below_of_drew hb7) hb8 hb7.size).mono hb6.size)⟩
end Go.Proofs.Ytjhiiikijpalhaa
