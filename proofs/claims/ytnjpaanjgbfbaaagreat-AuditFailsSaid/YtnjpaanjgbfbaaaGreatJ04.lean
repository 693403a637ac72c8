/- Bits of unsigned numbers, as Nat's. -/
import Derived.Test.YtnjpaanjgbfbaaaGreatJ00
import Derived.Laws.Entries
import Derived.Laws.BitsLemmas
namespace Go.Proofs.YtnjpaanjgbfbaaaGreat
set_option linter.unusedVariables false
set_option linter.unusedSimpArgs false
open Go.RowKit

theorem wraps_u32 (n : Int) (h₀ : 0 ≤ n) (h₁ : n < 2 ^ 32) : IntKind.u32.wrap n = n := by rw [IntKind.wrap_u32]; omega
theorem bits_xor_nat (k : IntKind) (hk : ∀ n : Int, 0 ≤ n → n < 2 ^ k.bits → k.wrap n = n) (a b : Nat) (ha : a < 2 ^ k.bits) (hb : b < 2 ^ k.bits) :
    bits .xor k a b = ((a ^^^ b : Nat) : Int) := by
  simp only [bits, BitVec.ofInt_natCast, BitVec.toNat_xor, BitVec.toNat_ofNat, Nat.mod_eq_of_lt ha, Nat.mod_eq_of_lt hb]
  exact hk _ (Int.natCast_nonneg _) (by exact_mod_cast Nat.xor_lt_two_pow ha hb)
theorem xor32 (a b : Nat) (ha : a < 4294967296) (hb : b < 4294967296) : bits .xor .u32 a b = ((a ^^^ b : Nat) : Int) := bits_xor_nat .u32 wraps_u32 a b ha hb
theorem and32 (a b : Nat) (ha : a < 4294967296) (hb : b < 4294967296) : bits .and .u32 a b = ((a &&& b : Nat) : Int) := (bits_nat .u32 32 (by decide) wraps_u32 a b ha hb).1
theorem and8 (a b : Nat) (ha : a < 256) (hb : b < 256) : bits .and .u8 a b = ((a &&& b : Nat) : Int) := (bits_nat .u8 8 (by decide) wraps_u8 a b ha hb).1
theorem max32 : IntKind.u32.max = ((4294967295 : Nat) : Int) := by decide

/-- A step of the CRC, as octet has it. -/
theorem crc_bits (Y : Nat) (h : Y < 4294967296) :
    bits .xor .u32 ((Y : Int) / 2) (bits .and .u32 3988292384 (-bits .and .u32 (Y : Int) 1 % 4294967296)) = ((P.crcBit Y : Nat) : Int) := by
  have e1 : bits .and .u32 (Y : Int) 1 = ((Y % 2 : Nat) : Int) := by
    have := and32 Y 1 h (by omega)
    rw [Nat.and_one_is_mod] at this
    exact this
  have e2 : ((Y : Int) / 2) = ((Y / 2 : Nat) : Int) := by simp
  rw [e1, e2]
  unfold P.crcBit
  rcases Nat.mod_two_eq_zero_or_one Y with hy | hy
  · rw [hy, if_neg (by omega)]
    have := and32 3988292384 0 (by omega) (by omega)
    rw [show (-((0 : Nat) : Int) % 4294967296) = ((0 : Nat) : Int) by decide, show (3988292384 : Int) = ((3988292384 : Nat) : Int) by rfl, this, xor32 _ _ (by omega) (by decide)]
    simp
  · rw [hy, if_pos rfl]
    have := and32 3988292384 4294967295 (by omega) (by omega)
    rw [show (-((1 : Nat) : Int) % 4294967296) = ((4294967295 : Nat) : Int) by decide, show (3988292384 : Int) = ((3988292384 : Nat) : Int) by rfl, this,
      show (3988292384 &&& 4294967295 : Nat) = 3988292384 by decide, xor32 _ _ (by omega) (by omega)]

end Go.Proofs.YtnjpaanjgbfbaaaGreat
