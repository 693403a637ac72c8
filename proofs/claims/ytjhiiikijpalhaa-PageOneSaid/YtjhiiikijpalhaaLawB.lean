/- The walks of the law OctetCrcs. -/
import Derived.Test.YtjhiiikijpalhaaLawA
namespace Go.Proofs.Ytjhiiikijpalhaa
set_option linter.unusedVariables false
set_option linter.unusedSimpArgs false
open Go.RowKit


set_option maxHeartbeats 800000 in
theorem octetCrcs_walk (a : Option Addr) (len cap : Nat) (l : List UInt8) (bit : Int) (w : World) (hr : Rd w a len l) (hc : len ≤ cap)
    (hbit : -9223372036854775808 ≤ bit ∧ bit ≤ 9223372036854775807) :
    Calls Try.prog 4 #[.slice a len cap, .int .i64 bit] w fun e w' => e = .returned (.bool true) ∧ Below w.heap.size w w' := by
  obtain rfl := hr.1
  have HR := Lib.hid hr
  clear hr
  by_cases hl : 20000 < (l.length : Int)
  · have c1 : decide (20000 < (l.length : Int)) = true := decide_eq_true hl
    go_enter Try.func4, Try.ntmps4
    go_wp2_with fail
    refine (awake1_any _).mono ?_
    rintro e w1 ⟨rfl, hb1⟩
    go_wp2
    go_ret
    exact ⟨rfl, hb1⟩
  · have c1 : decide (20000 < (l.length : Int)) = false := decide_eq_false hl
    by_cases h0 : l.length = 0
    · have hnil : l = [] := List.eq_nil_of_length_eq_zero h0
      subst hnil
      have hcrc : P.crc [] = 0 := by decide
      have HC := Lib.hid hcrc
      clear hcrc h0
      go_enter Try.func4, Try.ntmps4
      go_wp2_with fail
      refine (awake1_any _).mono ?_
      rintro e w1 ⟨rfl, hb1⟩
      go_wp2_with fail
      refine (crc_any _ _ _ [] _ (Rd.nil _ _)).mono ?_
      rintro e w2 ⟨rfl, rfl⟩
      rw [HC.out]
      go_wp2_with fail
      refine (rcrc_any _ _ _ [] _ (Rd.nil _ _)).mono ?_
      rintro e w2 ⟨rfl, rfl⟩
      rw [HC.out]
      go_wp2
      go_ret
      exact ⟨rfl, hb1⟩
    · have c2 : ((l.length : Int) == 0) = false := by simp; exact fun h => h0 (by simp [h])
      have hpos : 0 < l.length := by omega
      have t1 : -((l.length : Int) * 8) < bit.tmod ((l.length : Int) * 8) := by
        have := Int.lt_tmod_of_pos bit (show (0 : Int) < (l.length : Int) * 8 by omega)
        omega
      have t2 : bit.tmod ((l.length : Int) * 8) < (l.length : Int) * 8 := Int.tmod_lt_of_pos bit (by omega)
      clear h0
      go_enter Try.func4, Try.ntmps4
      go_wp2_with fail
      refine (awake1_any _).mono ?_
      rintro e w1 ⟨rfl, hb1⟩
      go_wp2_with fail
      refine (crc_any _ _ _ l _ (HR.out.below hb1)).mono ?_
      rintro e w2 ⟨rfl, rfl⟩
      go_wp2_with fail
      refine (rcrc_any _ _ _ l _ (HR.out.below hb1)).mono ?_
      rintro e w2 ⟨rfl, rfl⟩
      go_wp2_with fail
      obtain ⟨B, hB⟩ : ∃ B : Nat, (bit.tmod ((l.length : Int) * 8) + (l.length : Int) * 8) % ((l.length : Int) * 8) = (B : Int) :=
        Int.eq_ofNat_of_zero_le (Int.emod_nonneg _ (by omega))
      have hB2 : (B : Int) < (l.length : Int) * 8 := by rw [← hB]; exact Int.emod_lt_of_pos _ (by omega)
      rw [hB]
      clear hB t1 t2
      refine (copy_any _ _ _ l _ (HR.out.below hb1) (by omega)).mono ?_
      rintro e w2 ⟨v, rfl, hown, hb2⟩
      obtain ⟨g, cp, hv, hgB, hgl, _, _⟩ := hown.pos hpos
      subst hv
      have hcell : w2.cell? ⟨g, B / 8, none⟩ = some (.int .u8 (l[B / 8].toNat : Int)) := hown.cell (B / 8) (by omega)
      have hfree := hown.free (B / 8)
      have HO := Lib.hid hown
      clear hown
      go_wp2_with fail
      rw [flip_bits _ _ (Nat.mod_lt _ (by omega))]
      have hne := P.crc_set l (B / 8) (flip l[B / 8] (B % 8)) (by omega) (flip_ne _ _ (Nat.mod_lt _ (by omega)))
      have HNE := Lib.hid hne
      have hst := HO.out.stored (B / 8) (flip l[B / 8] (B % 8))
      obtain ⟨a3, c3, hv, hr3, _⟩ := hst.form
      simp only [Value.slice.injEq] at hv
      obtain ⟨e1, -, e3⟩ := hv
      subst e1
      subst e3
      rw [List.length_set] at hr3
      obtain ⟨w4, hw4⟩ : ∃ w4, w4 = w2.setCell ⟨g, B / 8, none⟩ (.int .u8 ((flip l[B / 8] (B % 8)).toNat : Int)) := ⟨_, rfl⟩
      have hr4 : Rd w4 (some ⟨g, 0, none⟩) l.length (l.set (B / 8) (flip l[B / 8] (B % 8))) := by rw [hw4]; exact hr3
      have HR3 := Lib.hid hr4
      have hb4 : Below w.heap.size w w4 := by rw [hw4]; exact (below_then hb1 hb2 hb1.size).setCell (Nat.le_trans hb1.size hgB) _
      rw [← hw4]
      clear hne hst hr3 hr4 hw4 hcell hfree
      refine (crc_any _ _ _ _ _ HR3.out).mono ?_
      rintro e w3 ⟨rfl, rfl⟩
      obtain ⟨Y, hY⟩ : ∃ Y, Y = P.crc (l.set (B / 8) (flip l[B / 8] (B % 8))) := ⟨_, rfl⟩
      rw [← hY]
      have ht : ((Y : Int) != ((P.crc l : Nat) : Int)) = true := by
        rw [bne_iff_ne]
        exact fun h => HNE.out (by rw [← hY]; exact_mod_cast h)
      clear hY
      go_wp2
      go_ret
      exact ⟨by first | rfl | simp, hb4⟩
end Go.Proofs.Ytjhiiikijpalhaa
