/- The walks of octet.Crc and of the reference's. -/
import Derived.Test.YtpdmhnppibfmkaaOcD
import Derived.Test.YtpdmhnppibfmkaaBits
namespace Go.Proofs.Ytpdmhnppibfmkaa
set_option linter.unusedVariables false
set_option linter.unusedSimpArgs false
open Go.RowKit

set_option maxHeartbeats 400000 in
theorem crc_any (a : Option Addr) (len cap : Nat) (l : List UInt8) (w : World) (hr : Rd w a len l) :
    Calls Try.prog 65 #[.slice a len cap] w fun e w' => e = .returned (.int .u32 ((P.crc l : Nat) : Int)) ∧ w = w' := by
  have hl := hr.2.1
  unfold maxLen at hl
  have hlen1 : l.length ≤ len := by have := hr.1; omega
  have hlen2 : len ≤ l.length := by have := hr.1; omega
  have HR := Lib.hid hr
  clear hr
  go_enter Try.func65, Try.ntmps65
  go_wp2
  go_loop [3, 8] (fun x i => ∃ k : Nat, k ≤ len ∧ i = .int .i64 k ∧ x = .int .u32 ((P.crcFrom 4294967295 (l.take k) : Nat) : Int)) (fun _ i => len - (intOf i).toNat)
  case atStart => exact ⟨0, by omega, rfl, rfl⟩
  case round =>
    obtain ⟨k, hk, rfl, rfl⟩ := hrel
    by_cases hlt : k < len
    · obtain ⟨p, rfl, hc0⟩ := HR.out.at k (by omega)
      unfold bv at hc0
      obtain ⟨X, hX⟩ : ∃ X, X = P.crcFrom 4294967295 (l.take k) := ⟨_, rfl⟩
      rw [← hX]
      have HX := Lib.hid hX
      clear hX
      go_wp2
      go_loop [3, 16] (fun x i => ∃ j : Nat, j ≤ 8 ∧ i = .int .i64 j ∧ x = .int .u32 ((P.crcBits j (X ^^^ l[k].toNat) : Nat) : Int)) (fun _ i => 8 - (intOf i).toNat)
      case atStart =>
        refine ⟨0, by omega, rfl, ?_⟩
        have hc := l[k].toNat_lt
        have hX : X < 4294967296 := by rw [HX.out]; exact P.crcFrom_lt _ _ (by omega)
        rw [show ((l[k].toNat : Int) % 4294967296) = ((l[k].toNat : Nat) : Int) by omega, xor32 _ _ hX (by omega)]
        rfl
      case round =>
        obtain ⟨j, hj, rfl, rfl⟩ := hrel
        obtain ⟨Y, hY⟩ : ∃ Y, Y = P.crcBits j (X ^^^ l[k].toNat) := ⟨_, rfl⟩
        rw [← hY]
        have HY := Lib.hid hY
        clear hY
        by_cases hlt : j < 8
        · have hc := l[k].toNat_lt
          have hX : X < 4294967296 := by rw [HX.out]; exact P.crcFrom_lt _ _ (by omega)
          have hYb : Y < 4294967296 := by rw [HY.out]; exact P.crcBits_lt _ _ (Nat.xor_lt_two_pow (n := 32) hX (by omega))
          have HC := Lib.hid (crc_bits Y hYb)
          clear hX
          go_wp2
          exact ⟨⟨j + 1, by omega, by go_num, by rw [HC.out, P.crcBits_succ, HY.out]⟩, by simp [intOf]; omega⟩
        · obtain rfl : j = 8 := by omega
          have hn : P.crcFrom 4294967295 (l.take (k + 1)) = Y := by
            rw [take_snoc l k (by omega), P.crcFrom_snoc, ← HX.out, HY.out]
            rfl
          have HN := Lib.hid hn
          clear hn
          go_wp2
          exact ⟨⟨k + 1, by omega, by go_num, by rw [HN.out]⟩, by simp [intOf]; omega⟩
    · obtain rfl : k = len := by omega
      obtain ⟨X, hX⟩ : ∃ X, X = P.crcFrom 4294967295 (l.take k) := ⟨_, rfl⟩
      rw [← hX]
      have hv : (((P.crc l : Nat) : Int)) = bits .xor .u32 IntKind.u32.max (X : Int) := by
        have hXb : X < 4294967296 := by rw [hX]; exact P.crcFrom_lt _ _ (by omega)
        rw [max32, xor32 _ _ (by omega) hXb, hX, List.take_of_length_le hlen1, Nat.xor_comm]
        rfl
      have HV := Lib.hid hv
      clear hX hv
      go_wp2
      go_ret
      exact ⟨by rw [HV.out]; rfl, rfl⟩

set_option maxHeartbeats 400000 in
theorem rcrc_any (a : Option Addr) (len cap : Nat) (l : List UInt8) (w : World) (hr : Rd w a len l) :
    Calls Try.prog 89 #[.slice a len cap] w fun e w' => e = .returned (.int .u32 ((P.crc l : Nat) : Int)) ∧ w = w' := by
  have hl := hr.2.1
  unfold maxLen at hl
  have hlen1 : l.length ≤ len := by have := hr.1; omega
  have hlen2 : len ≤ l.length := by have := hr.1; omega
  have HR := Lib.hid hr
  clear hr
  go_enter Try.func89, Try.ntmps89
  go_wp2
  go_loop [3, 4] (fun x i => ∃ k : Nat, k ≤ len ∧ i = .int .i64 k ∧ x = .int .u32 ((P.crcFrom 4294967295 (l.take k) : Nat) : Int)) (fun _ i => len - (intOf i).toNat)
  case atStart => exact ⟨0, by omega, rfl, rfl⟩
  case round =>
    obtain ⟨k, hk, rfl, rfl⟩ := hrel
    by_cases hlt : k < len
    · obtain ⟨p, rfl, hc0⟩ := HR.out.at k (by omega)
      unfold bv at hc0
      obtain ⟨X, hX⟩ : ∃ X, X = P.crcFrom 4294967295 (l.take k) := ⟨_, rfl⟩
      rw [← hX]
      have HX := Lib.hid hX
      clear hX
      go_wp2
      go_loop [3, 5] (fun x i => ∃ j : Nat, j ≤ 8 ∧ i = .int .i64 j ∧ x = .int .u32 ((P.crcBits j (X ^^^ l[k].toNat) : Nat) : Int)) (fun _ i => 8 - (intOf i).toNat)
      case atStart =>
        refine ⟨0, by omega, rfl, ?_⟩
        have hc := l[k].toNat_lt
        have hX : X < 4294967296 := by rw [HX.out]; exact P.crcFrom_lt _ _ (by omega)
        rw [show ((l[k].toNat : Int) % 4294967296) = ((l[k].toNat : Nat) : Int) by omega, xor32 _ _ hX (by omega)]
        rfl
      case round =>
        obtain ⟨j, hj, rfl, rfl⟩ := hrel
        obtain ⟨Y, hY⟩ : ∃ Y, Y = P.crcBits j (X ^^^ l[k].toNat) := ⟨_, rfl⟩
        rw [← hY]
        have HY := Lib.hid hY
        clear hY
        by_cases hlt : j < 8
        · have hc := l[k].toNat_lt
          have hX : X < 4294967296 := by rw [HX.out]; exact P.crcFrom_lt _ _ (by omega)
          have hYb : Y < 4294967296 := by rw [HY.out]; exact P.crcBits_lt _ _ (Nat.xor_lt_two_pow (n := 32) hX (by omega))
          have e1 : bits .and .u32 (Y : Int) 1 = ((Y % 2 : Nat) : Int) := by
            have := and32 Y 1 hYb (by omega)
            rw [Nat.and_one_is_mod] at this
            exact this
          clear hX
          by_cases hodd : Y % 2 = 1
          · have t1 : (bits .and .u32 (Y : Int) 1 == 1) = true := by rw [e1, hodd]; rfl
            have hs : bits .xor .u32 ((Y : Int) / 2) 3988292384 = ((P.crcBit Y : Nat) : Int) := by
              have e2 : ((Y : Int) / 2) = ((Y / 2 : Nat) : Int) := by simp
              rw [e2, show (3988292384 : Int) = ((3988292384 : Nat) : Int) by rfl, xor32 _ _ (by omega) (by omega)]
              unfold P.crcBit
              rw [if_pos hodd]
            have HS := Lib.hid hs
            clear e1 hodd hs
            go_wp2
            exact ⟨⟨j + 1, by omega, by go_num, by rw [HS.out, P.crcBits_succ, HY.out]⟩, by simp [intOf]; omega⟩
          · have t1 : (bits .and .u32 (Y : Int) 1 == 1) = false := by
              rw [e1, show Y % 2 = 0 by omega]; rfl
            have hs : ((Y : Int) / 2) = ((P.crcBit Y : Nat) : Int) := by
              unfold P.crcBit
              rw [if_neg hodd]
              simp
            have HS := Lib.hid hs
            clear e1 hodd hs
            go_wp2
            exact ⟨⟨j + 1, by omega, by go_num, by rw [HS.out, P.crcBits_succ, HY.out]⟩, by simp [intOf]; omega⟩
        · obtain rfl : j = 8 := by omega
          have hn : P.crcFrom 4294967295 (l.take (k + 1)) = Y := by
            rw [take_snoc l k (by omega), P.crcFrom_snoc, ← HX.out, HY.out]
            rfl
          have HN := Lib.hid hn
          clear hn
          go_wp2
          exact ⟨⟨k + 1, by omega, by go_num, by rw [HN.out]⟩, by simp [intOf]; omega⟩
    · obtain rfl : k = len := by omega
      obtain ⟨X, hX⟩ : ∃ X, X = P.crcFrom 4294967295 (l.take k) := ⟨_, rfl⟩
      rw [← hX]
      have hv : (((P.crc l : Nat) : Int)) = bits .xor .u32 IntKind.u32.max (X : Int) := by
        have hXb : X < 4294967296 := by rw [hX]; exact P.crcFrom_lt _ _ (by omega)
        rw [max32, xor32 _ _ (by omega) hXb, hX, List.take_of_length_le hlen1, Nat.xor_comm]
        rfl
      have HV := Lib.hid hv
      clear hX hv
      go_wp2
      go_ret
      exact ⟨by rw [HV.out]; rfl, rfl⟩
end Go.Proofs.Ytpdmhnppibfmkaa
