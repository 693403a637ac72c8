/- The walks of the reference's Put. -/
import Derived.Test.YtpdmhnppibfmkaaOcC
namespace Go.Proofs.Ytpdmhnppibfmkaa
set_option linter.unusedVariables false
set_option linter.unusedSimpArgs false
open Go.RowKit

set_option maxHeartbeats 400000 in
theorem rput_bad (a : Option Addr) (len cap : Nat) (l : List UInt8) (at_ n x : Int) (w : World) (hr : Rd w a len l) (hn : P.put l at_ n x = none)
    (hx : -9223372036854775808 ≤ x ∧ x ≤ 9223372036854775807) :
    Calls Try.prog 88 #[.slice a len cap, .int .i64 at_, .int .i64 n, .int .i64 x] w fun e w' =>
      e = .returned (.tuple #[.slice none 0 0, .bool false]) ∧ w = w' := by
  have hl := hr.2.1
  have hlen := hr.1
  by_cases hb : P.lies len at_ n = true
  · have hs : 1 ≤ n ∧ n ≤ 8 ∧ 0 ≤ at_ ∧ at_ + n ≤ len := by simpa [P.lies] using hb
    obtain ⟨h1, h2, h3, h4⟩ := hs
    have hq : ¬ (0 ≤ x ∧ x ≤ 4611686018427387904 ∧ x < 256 ^ n.toNat) := by
      intro h
      simp [P.put, hlen, hb, h] at hn
    have HB := Lib.hid hb
    clear hb hr hlen hn
    obtain ⟨n, rfl⟩ := Int.eq_ofNat_of_zero_le (Int.le_trans (by omega) h1)
    by_cases hx0 : x < 0
    · clear hq
      go_enter Try.func88, Try.ntmps88
      go_wp2_with fail
      refine (rlies_any _ _ _ _ _ _ hl).mono ?_
      rintro e w' ⟨rfl, rfl⟩
      rw [HB.out]
      go_wp2
      go_ret2
      exact ⟨rfl, rfl⟩
    by_cases hx1 : 4611686018427387904 < x
    · clear hq
      have c1 : decide (x < 0) = false := decide_eq_false hx0
      have c2 : decide (4611686018427387904 < x) = true := decide_eq_true hx1
      go_enter Try.func88, Try.ntmps88
      go_wp2_with fail
      refine (rlies_any _ _ _ _ _ _ hl).mono ?_
      rintro e w' ⟨rfl, rfl⟩
      rw [HB.out]
      go_wp2
      go_ret2
      exact ⟨rfl, rfl⟩
    have h256 : ((256 ^ n : Nat) : Int) ≤ x := by
      rcases Int.lt_or_le x ((256 ^ n : Nat) : Int) with h | h
      · exfalso
        apply hq
        refine ⟨by omega, by omega, ?_⟩
        rw [Int.toNat_natCast]
        simpa using h
      · exact h
    clear hq
    have h8 : n < 8 := by
      rcases Nat.lt_or_ge n 8 with h | h
      · exact h
      · have e : n = 8 := by omega
        subst e
        omega
    have h7 := pow7 n h8
    have c3 : decide (wrap64 (2 ^ (8 * n)) ≤ x) = true := by
      have := pow_pos' n
      rw [pow_shl, IntWalk.wrap64_in _ (by omega)]
      exact decide_eq_true h256
    clear h7
    have h8' : (n : Int) < 8 := by omega
    clear h256 h2 h8
    have c1 : decide (x < 0) = false := decide_eq_false hx0
    have c2 : decide (4611686018427387904 < x) = false := decide_eq_false hx1
    go_enter Try.func88, Try.ntmps88
    go_wp2_with fail
    refine (rlies_any _ _ _ _ _ _ hl).mono ?_
    rintro e w' ⟨rfl, rfl⟩
    rw [HB.out]
    go_wp2
    go_ret2
    exact ⟨rfl, rfl⟩
  · have hb' : P.lies len at_ n = false := by simpa using hb
    have HB := Lib.hid hb'
    clear hb hb' hlen hr hn
    go_enter Try.func88, Try.ntmps88
    go_wp2_with fail
    refine (rlies_any _ _ _ _ _ _ hl).mono ?_
    rintro e w' ⟨rfl, rfl⟩
    rw [HB.out]
    go_wp2
    go_ret2
    exact ⟨rfl, rfl⟩

set_option maxHeartbeats 800000 in
theorem rput_good (a : Option Addr) (len cap : Nat) (l k : List UInt8) (at_ n x : Int) (w : World) (hr : Rd w a len l) (hn : P.put l at_ n x = some k) (hm : len ≤ 140737488355328) :
    Calls Try.prog 88 #[.slice a len cap, .int .i64 at_, .int .i64 n, .int .i64 x] w fun e w' =>
      ∃ v, e = .returned (.tuple #[v, .bool true]) ∧ OB w' w.heap.size v k ∧ Below w.heap.size w w' := by
  have hl := hr.2.1
  have hlen := hr.1
  unfold P.put at hn
  split at hn
  case isFalse => cases hn
  rename_i hc
  obtain ⟨hb, hx0, hx1, hx2⟩ := hc
  have hk := Option.some.inj hn
  clear hn
  rw [hlen] at hb
  have hs : 1 ≤ n ∧ n ≤ 8 ∧ 0 ≤ at_ ∧ at_ + n ≤ len := by simpa [P.lies] using hb
  obtain ⟨h1, h2, h3, h4⟩ := hs
  obtain ⟨n, rfl⟩ := Int.eq_ofNat_of_zero_le (Int.le_trans (by omega) h1)
  obtain ⟨at_, rfl⟩ := Int.eq_ofNat_of_zero_le h3
  rw [Int.toNat_natCast] at hx2
  rw [Int.toNat_natCast, Int.toNat_natCast] at hk
  have HB := Lib.hid hb
  have HR := Lib.hid hr
  have HK := Lib.hid hk
  have hlen1 : l.length ≤ len := by omega
  have hlen2 : len ≤ l.length := by omega
  have c1 : decide (x < 0) = false := decide_eq_false (by omega)
  have c2 : decide (4611686018427387904 < x) = false := decide_eq_false (by omega)
  clear hb hr hk hlen
  have hx3 : x < ((256 ^ n : Nat) : Int) := by simpa using hx2
  obtain ⟨y, hy⟩ := Int.eq_ofNat_of_zero_le hx0
  have HY := Lib.hid hy
  have HZ : Hid (x.toNat = y) := by rw [Hid]; omega
  have hbl : (P.be n y).length = n := P.be_length n y
  clear hy hx2
  have main : ∀ b, decide ((n : Int) < 8) = b → (b = true → decide (wrap64 (2 ^ (8 * n)) ≤ x) = false) → Calls Try.prog 88 #[.slice a len cap, .int .i64 at_, .int .i64 n, .int .i64 x] w fun e w' =>
      ∃ v, e = .returned (.tuple #[v, .bool true]) ∧ OB w' w.heap.size v k ∧ Below w.heap.size w w' := by
    intro b hb8 hb9
    cases b
    case' true => have c3 := hb9 rfl
    all_goals
      clear hb9 hx3
      go_enter Try.func88, Try.ntmps88
      go_wp2_with fail
      refine (rlies_any _ _ _ _ _ _ hl).mono ?_
      rintro e w' ⟨rfl, rfl⟩
      rw [HB.out]
      go_wp2_with fail
      refine (copy_any _ _ _ _ _ HR.out (by omega)).mono ?_
      rintro e w1 ⟨v1, rfl, hown1, hbl1⟩
      obtain ⟨g, cp, hv1, hgB, hgl, _, _⟩ := hown1.pos (by omega)
      subst hv1
      have HO1 := Lib.hid hown1
      clear hown1
      go_wp2
      go_loopw [11] (fun i wr => ∃ m : Nat, m ≤ n ∧ i = .int .i64 m ∧
          OB wr w.heap.size (.slice (some ⟨g, 0, none⟩) l.length cp) (upTo l (P.be n y) at_ m) ∧ Below w.heap.size w wr) (fun i _ => n - (intOf i).toNat)
      case atStart =>
        refine ⟨0, by omega, rfl, ?_, hbl1⟩
        rw [upTo_none]
        exact HO1.out
      case round =>
        obtain ⟨m, hmn, rfl, hown, hb2⟩ := hrel
        have hsz := hb2.size
        by_cases hlt : m < n
        · have hlen3 := upTo_length l (P.be n y) at_ m (by omega) (by omega)
          obtain ⟨u, hcell⟩ : ∃ u, wr.cell? ⟨g, at_ + m, none⟩ = some u := ⟨_, hown.cell (at_ + m) (by omega)⟩
          have hfree := hown.free (at_ + m)
          have HW := Lib.hid hown
          have hbm : (P.be n y)[m]'(by omega) = UInt8.ofNat (y / 256 ^ (n - 1 - m) % 256) := be_at n y m (by omega)
          have hst := upTo_step l (P.be n y) at_ m (by omega) (by omega)
          rw [hbm] at hst
          have HT := Lib.hid hst
          clear hown hbm hst
          go_wp2
          refine ⟨⟨m + 1, by omega, by go_num, ?_, hb2.setCell hgB _⟩, by simp [intOf]; omega⟩
          rw [← HT.out]
          have e := HW.out.stored (at_ + m) (UInt8.ofNat (y / 256 ^ (n - 1 - m) % 256))
          unfold bv at e
          have e2 : (x / 2 ^ (8 * (n - 1 - m)) % 256) = ((UInt8.ofNat (y / 256 ^ (n - 1 - m) % 256)).toNat : Int) := by
            rw [HY.out, pow_shl]
            simp
          rw [e2]
          exact e
        · obtain rfl : m = n := by omega
          have HE : Hid (OB wr w.heap.size (.slice (some ⟨g, 0, none⟩) l.length cp) k) := by
            rw [Hid, ← HK.out, HZ.out]
            have e : upTo l (P.be m y) at_ m = l.take at_ ++ P.be m y ++ l.drop (at_ + m) := by
              unfold upTo
              rw [List.take_of_length_le (l := P.be m y) (by omega)]
            rw [← e]
            exact hown
          clear hown
          go_wp2
          go_ret2
          exact ⟨_, rfl, HE.out, hb2⟩
  refine main _ rfl fun h => ?_
  have h8 : n < 8 := by have := of_decide_eq_true h; omega
  have h7 := pow7 n h8
  have := pow_pos' n
  rw [pow_shl, IntWalk.wrap64_in _ (by omega)]
  exact decide_eq_false (by omega)
end Go.Proofs.Ytpdmhnppibfmkaa
