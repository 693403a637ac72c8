/- The walks of octet.Put and of the reference's. -/
import Derived.Test.YtnjpaanjgbfbaaaGreatJ04
import Derived.Test.YtnjpaanjgbfbaaaGreatJ03
import Derived.Test.YtnjpaanjgbfbaaaGreatJ05
import Derived.StillTailTactics
import Derived.Deep.RegionHeld3
import Derived.Laws.CopyOwn
import Derived.BigRegion
import Derived.Deep.RegionWith
import Derived.LoopN
namespace Go.Proofs.YtnjpaanjgbfbaaaGreat
set_option linter.unusedVariables false
set_option linter.unusedSimpArgs false
open Go.RowKit

theorem pow_shl (n : Nat) : (2 : Int) ^ (8 * n) = ((256 ^ n : Nat) : Int) := by
  have h : 2 ^ (8 * n) = 256 ^ n := by rw [Nat.pow_mul]
  rw [← h]
  norm_cast
theorem pow7 (n : Nat) (h : n < 8) : 256 ^ n ≤ 72057594037927936 := by
  have := Nat.pow_le_pow_right (n := 256) (by omega) (show n ≤ 7 by omega)
  omega
theorem pow_pos' (n : Nat) : 0 < 256 ^ n := Nat.pow_pos (by omega)

/-- The bytes of a number, one by one. -/
theorem be_at (n x i : Nat) (h : i < n) : (P.be n x)[i]'(by rw [P.be_length]; exact h) = UInt8.ofNat (x / 256 ^ (n - 1 - i) % 256) := by
  induction n generalizing x with
  | zero => omega
  | succ n ih =>
    by_cases hi : i < n
    · have e := ih (x / 256) hi
      simp only [P.be]
      rw [List.getElem_append_left (by rw [P.be_length]; exact hi), e, Nat.div_div_eq_div_mul, ← Nat.pow_succ']
      congr 4
      omega
    · have : i = n := by omega
      subst this
      simp [P.be, P.be_length]

/-- Bytes laid from behind. -/
def downTo (l b : List UInt8) (at_ m : Nat) : List UInt8 := l.take (at_ + m) ++ b.drop m ++ l.drop (at_ + b.length)
theorem downTo_step (l b : List UInt8) (at_ m : Nat) (hb : at_ + b.length ≤ l.length) (hm : m < b.length) : (downTo l b at_ (m + 1)).set (at_ + m) b[m] = downTo l b at_ m := by
  have e : b.drop m = b[m] :: b.drop (m + 1) := List.drop_eq_getElem_cons hm
  unfold downTo
  rw [show at_ + (m + 1) = (at_ + m) + 1 by omega, take_snoc l (at_ + m) (by omega), e]
  have hl : (l.take (at_ + m)).length = at_ + m := by simp; omega
  rw [List.append_assoc, List.append_assoc, List.set_append_right _ _ (by omega), hl]
  simp only [List.set_cons_zero, List.append_assoc, List.cons_append, List.nil_append, Nat.sub_self]
/-- Bytes laid from ahead. -/
def upTo (l b : List UInt8) (at_ m : Nat) : List UInt8 := l.take at_ ++ b.take m ++ l.drop (at_ + m)
theorem upTo_step (l b : List UInt8) (at_ m : Nat) (hb : at_ + b.length ≤ l.length) (hm : m < b.length) : (upTo l b at_ m).set (at_ + m) b[m] = upTo l b at_ (m + 1) := by
  have e : l.drop (at_ + m) = l[at_ + m]'(by omega) :: l.drop (at_ + m + 1) := List.drop_eq_getElem_cons (by omega)
  unfold upTo
  have hl : (l.take at_ ++ b.take m).length = at_ + m := by simp; omega
  rw [List.set_append_right _ _ (by omega), hl, e, take_snoc b m hm]
  simp only [List.set_cons_zero, List.append_assoc, List.cons_append, List.nil_append, Nat.sub_self, show at_ + (m + 1) = at_ + m + 1 by omega]
theorem upTo_length (l b : List UInt8) (at_ m : Nat) (hb : at_ + b.length ≤ l.length) (hm : m ≤ b.length) : (upTo l b at_ m).length = l.length := by simp [upTo]; omega
theorem upTo_none (l b : List UInt8) (at_ : Nat) : upTo l b at_ 0 = l := by simp [upTo]

end Go.Proofs.YtnjpaanjgbfbaaaGreat
/- The walks of the reference's Put. -/
namespace Go.Proofs.YtnjpaanjgbfbaaaGreat
set_option linter.unusedVariables false
set_option linter.unusedSimpArgs false
open Go.RowKit

set_option maxHeartbeats 800000 in
theorem rput_good (a : Option Addr) (len cap : Nat) (l k : List UInt8) (at_ n x : Int) (w : World) (hr : Rd w a len l) (hn : P.put l at_ n x = some k) (hm : len ≤ 140737488355328) :
    Calls Tryz.prog 32 #[.slice a len cap, .int .i64 at_, .int .i64 n, .int .i64 x] w fun e w' =>
      ∃ v, e = .returned (.tuple #[v, .bool true]) ∧ OB w' w.heap.size v k ∧ Below w.heap.size w w' := by
  have hl := hr.2.1
  have hlen := hr.1
  unfold P.put at hn
  split at hn
  case isFalse => cases hn
  rename_i hc
  obtain ⟨hb, hx0, hx1, hx2⟩ := hc
  have hk := Option.some.inj hn
  clear hn
  rw [hlen] at hb
  have hs : 1 ≤ n ∧ n ≤ 8 ∧ 0 ≤ at_ ∧ at_ + n ≤ len := by simpa [P.lies] using hb
  obtain ⟨h1, h2, h3, h4⟩ := hs
  obtain ⟨n, rfl⟩ := Int.eq_ofNat_of_zero_le (Int.le_trans (by omega) h1)
  obtain ⟨at_, rfl⟩ := Int.eq_ofNat_of_zero_le h3
  rw [Int.toNat_natCast] at hx2
  rw [Int.toNat_natCast, Int.toNat_natCast] at hk
  have HB := Lib.hid hb
  have HR := Lib.hid hr
  have HK := Lib.hid hk
  have hlen1 : l.length ≤ len := by omega
  have hlen2 : len ≤ l.length := by omega
  have c1 : decide (x < 0) = false := decide_eq_false (by omega)
  have c2 : decide (4611686018427387904 < x) = false := decide_eq_false (by omega)
  clear hb hr hk hlen
  have hx3 : x < ((256 ^ n : Nat) : Int) := by simpa using hx2
  obtain ⟨y, hy⟩ := Int.eq_ofNat_of_zero_le hx0
  have HY := Lib.hid hy
  have HZ : Hid (x.toNat = y) := by rw [Hid]; omega
  have hbl : (P.be n y).length = n := P.be_length n y
  clear hy hx2
  have main : ∀ b, decide ((n : Int) < 8) = b → (b = true → decide (wrap64 (2 ^ (8 * n)) ≤ x) = false) → Calls Tryz.prog 32 #[.slice a len cap, .int .i64 at_, .int .i64 n, .int .i64 x] w fun e w' =>
      ∃ v, e = .returned (.tuple #[v, .bool true]) ∧ OB w' w.heap.size v k ∧ Below w.heap.size w w' := by
    intro b hb8 hb9
    cases b
    case' true => have c3 := hb9 rfl
    all_goals
      clear hb9 hx3
      go_enter Tryz.func32, Tryz.ntmps32
      go_wp2_with fail
      refine (rlies_any _ _ _ _ _ _ hl).mono ?_
      rintro e w' ⟨rfl, rfl⟩
      rw [HB.out]
      go_wp2_with fail
      refine (copy_any _ _ _ _ _ HR.out (by omega)).mono ?_
      rintro e w1 ⟨v1, rfl, hown1, hbl1⟩
      obtain ⟨g, cp, hv1, hgB, hgl, _, _⟩ := hown1.pos (by omega)
      subst hv1
      have HO1 := Lib.hid hown1
      clear hown1
      go_wp2
      go_loopw [11] (fun i wr => ∃ m : Nat, m ≤ n ∧ i = .int .i64 m ∧
          OB wr w.heap.size (.slice (some ⟨g, 0, none⟩) l.length cp) (upTo l (P.be n y) at_ m) ∧ Below w.heap.size w wr) (fun i _ => n - (intOf i).toNat)
      case atStart =>
        refine ⟨0, by omega, rfl, ?_, hbl1⟩
        rw [upTo_none]
        exact HO1.out
      case round =>
        obtain ⟨m, hmn, rfl, hown, hb2⟩ := hrel
        have hsz := hb2.size
        by_cases hlt : m < n
        · have hlen3 := upTo_length l (P.be n y) at_ m (by omega) (by omega)
          obtain ⟨u, hcell⟩ : ∃ u, wr.cell? ⟨g, at_ + m, none⟩ = some u := ⟨_, hown.cell (at_ + m) (by omega)⟩
          have hfree := hown.free (at_ + m)
          have HW := Lib.hid hown
          have hbm : (P.be n y)[m]'(by omega) = UInt8.ofNat (y / 256 ^ (n - 1 - m) % 256) := be_at n y m (by omega)
          have hst := upTo_step l (P.be n y) at_ m (by omega) (by omega)
          rw [hbm] at hst
          have HT := Lib.hid hst
          clear hown hbm hst
          go_wp2
          refine ⟨⟨m + 1, by omega, by go_num, ?_, hb2.setCell hgB _⟩, by simp [intOf]; omega⟩
          rw [← HT.out]
          have e := HW.out.stored (at_ + m) (UInt8.ofNat (y / 256 ^ (n - 1 - m) % 256))
          unfold bv at e
          have e2 : (x / 2 ^ (8 * (n - 1 - m)) % 256) = ((UInt8.ofNat (y / 256 ^ (n - 1 - m) % 256)).toNat : Int) := by
            rw [HY.out, pow_shl]
            simp
          rw [e2]
          exact e
        · obtain rfl : m = n := by omega
          have HE : Hid (OB wr w.heap.size (.slice (some ⟨g, 0, none⟩) l.length cp) k) := by
            rw [Hid, ← HK.out, HZ.out]
            have e : upTo l (P.be m y) at_ m = l.take at_ ++ P.be m y ++ l.drop (at_ + m) := by
              unfold upTo
              rw [List.take_of_length_le (l := P.be m y) (by omega)]
            rw [← e]
            exact hown
          clear hown
          go_wp2
          go_ret2
          exact ⟨_, rfl, HE.out, hb2⟩
  refine main _ rfl fun h => ?_
  have h8 : n < 8 := by have := of_decide_eq_true h; omega
  have h7 := pow7 n h8
  have := pow_pos' n
  rw [pow_shl, IntWalk.wrap64_in _ (by omega)]
  exact decide_eq_false (by omega)
end Go.Proofs.YtnjpaanjgbfbaaaGreat
/- The walks of octet.Crc and of the reference's. -/
namespace Go.Proofs.YtnjpaanjgbfbaaaGreat
set_option linter.unusedVariables false
set_option linter.unusedSimpArgs false
open Go.RowKit

set_option maxHeartbeats 400000 in
theorem crc_any (a : Option Addr) (len cap : Nat) (l : List UInt8) (w : World) (hr : Rd w a len l) :
    Calls Tryz.prog 84 #[.slice a len cap] w fun e w' => e = .returned (.int .u32 ((P.crc l : Nat) : Int)) ∧ w = w' := by
  have hl := hr.2.1
  unfold maxLen at hl
  have hlen1 : l.length ≤ len := by have := hr.1; omega
  have hlen2 : len ≤ l.length := by have := hr.1; omega
  have HR := Lib.hid hr
  clear hr
  go_enter Tryz.func84, Tryz.ntmps84
  go_wp2
  go_loop [3, 8] (fun x i => ∃ k : Nat, k ≤ len ∧ i = .int .i64 k ∧ x = .int .u32 ((P.crcFrom 4294967295 (l.take k) : Nat) : Int)) (fun _ i => len - (intOf i).toNat)
  case atStart => exact ⟨0, by omega, rfl, rfl⟩
  case round =>
    obtain ⟨k, hk, rfl, rfl⟩ := hrel
    by_cases hlt : k < len
    · obtain ⟨p, rfl, hc0⟩ := HR.out.at k (by omega)
      unfold bv at hc0
      obtain ⟨X, hX⟩ : ∃ X, X = P.crcFrom 4294967295 (l.take k) := ⟨_, rfl⟩
      rw [← hX]
      have HX := Lib.hid hX
      clear hX
      go_wp2
      go_loop [3, 16] (fun x i => ∃ j : Nat, j ≤ 8 ∧ i = .int .i64 j ∧ x = .int .u32 ((P.crcBits j (X ^^^ l[k].toNat) : Nat) : Int)) (fun _ i => 8 - (intOf i).toNat)
      case atStart =>
        refine ⟨0, by omega, rfl, ?_⟩
        have hc := l[k].toNat_lt
        have hX : X < 4294967296 := by rw [HX.out]; exact P.crcFrom_lt _ _ (by omega)
        rw [show ((l[k].toNat : Int) % 4294967296) = ((l[k].toNat : Nat) : Int) by omega, xor32 _ _ hX (by omega)]
        rfl
      case round =>
        obtain ⟨j, hj, rfl, rfl⟩ := hrel
        obtain ⟨Y, hY⟩ : ∃ Y, Y = P.crcBits j (X ^^^ l[k].toNat) := ⟨_, rfl⟩
        rw [← hY]
        have HY := Lib.hid hY
        clear hY
        by_cases hlt : j < 8
        · have hc := l[k].toNat_lt
          have hX : X < 4294967296 := by rw [HX.out]; exact P.crcFrom_lt _ _ (by omega)
          have hYb : Y < 4294967296 := by rw [HY.out]; exact P.crcBits_lt _ _ (Nat.xor_lt_two_pow (n := 32) hX (by omega))
          have HC := Lib.hid (crc_bits Y hYb)
          clear hX
          go_wp2
          exact ⟨⟨j + 1, by omega, by go_num, by rw [HC.out, P.crcBits_succ, HY.out]⟩, by simp [intOf]; omega⟩
        · obtain rfl : j = 8 := by omega
          have hn : P.crcFrom 4294967295 (l.take (k + 1)) = Y := by
            rw [take_snoc l k (by omega), P.crcFrom_snoc, ← HX.out, HY.out]
            rfl
          have HN := Lib.hid hn
          clear hn
          go_wp2
          exact ⟨⟨k + 1, by omega, by go_num, by rw [HN.out]⟩, by simp [intOf]; omega⟩
    · obtain rfl : k = len := by omega
      obtain ⟨X, hX⟩ : ∃ X, X = P.crcFrom 4294967295 (l.take k) := ⟨_, rfl⟩
      rw [← hX]
      have hv : (((P.crc l : Nat) : Int)) = bits .xor .u32 IntKind.u32.max (X : Int) := by
        have hXb : X < 4294967296 := by rw [hX]; exact P.crcFrom_lt _ _ (by omega)
        rw [max32, xor32 _ _ (by omega) hXb, hX, List.take_of_length_le hlen1, Nat.xor_comm]
        rfl
      have HV := Lib.hid hv
      clear hX hv
      go_wp2
      go_ret
      exact ⟨by rw [HV.out]; rfl, rfl⟩

set_option maxHeartbeats 400000 in
theorem rcrc_any (a : Option Addr) (len cap : Nat) (l : List UInt8) (w : World) (hr : Rd w a len l) :
    Calls Tryz.prog 33 #[.slice a len cap] w fun e w' => e = .returned (.int .u32 ((P.crc l : Nat) : Int)) ∧ w = w' := by
  have hl := hr.2.1
  unfold maxLen at hl
  have hlen1 : l.length ≤ len := by have := hr.1; omega
  have hlen2 : len ≤ l.length := by have := hr.1; omega
  have HR := Lib.hid hr
  clear hr
  go_enter Tryz.func33, Tryz.ntmps33
  go_wp2
  go_loop [3, 4] (fun x i => ∃ k : Nat, k ≤ len ∧ i = .int .i64 k ∧ x = .int .u32 ((P.crcFrom 4294967295 (l.take k) : Nat) : Int)) (fun _ i => len - (intOf i).toNat)
  case atStart => exact ⟨0, by omega, rfl, rfl⟩
  case round =>
    obtain ⟨k, hk, rfl, rfl⟩ := hrel
    by_cases hlt : k < len
    · obtain ⟨p, rfl, hc0⟩ := HR.out.at k (by omega)
      unfold bv at hc0
      obtain ⟨X, hX⟩ : ∃ X, X = P.crcFrom 4294967295 (l.take k) := ⟨_, rfl⟩
      rw [← hX]
      have HX := Lib.hid hX
      clear hX
      go_wp2
      go_loop [3, 5] (fun x i => ∃ j : Nat, j ≤ 8 ∧ i = .int .i64 j ∧ x = .int .u32 ((P.crcBits j (X ^^^ l[k].toNat) : Nat) : Int)) (fun _ i => 8 - (intOf i).toNat)
      case atStart =>
        refine ⟨0, by omega, rfl, ?_⟩
        have hc := l[k].toNat_lt
        have hX : X < 4294967296 := by rw [HX.out]; exact P.crcFrom_lt _ _ (by omega)
        rw [show ((l[k].toNat : Int) % 4294967296) = ((l[k].toNat : Nat) : Int) by omega, xor32 _ _ hX (by omega)]
        rfl
      case round =>
        obtain ⟨j, hj, rfl, rfl⟩ := hrel
        obtain ⟨Y, hY⟩ : ∃ Y, Y = P.crcBits j (X ^^^ l[k].toNat) := ⟨_, rfl⟩
        rw [← hY]
        have HY := Lib.hid hY
        clear hY
        by_cases hlt : j < 8
        · have hc := l[k].toNat_lt
          have hX : X < 4294967296 := by rw [HX.out]; exact P.crcFrom_lt _ _ (by omega)
          have hYb : Y < 4294967296 := by rw [HY.out]; exact P.crcBits_lt _ _ (Nat.xor_lt_two_pow (n := 32) hX (by omega))
          have e1 : bits .and .u32 (Y : Int) 1 = ((Y % 2 : Nat) : Int) := by
            have := and32 Y 1 hYb (by omega)
            rw [Nat.and_one_is_mod] at this
            exact this
          clear hX
          by_cases hodd : Y % 2 = 1
          · have t1 : (bits .and .u32 (Y : Int) 1 == 1) = true := by rw [e1, hodd]; rfl
            have hs : bits .xor .u32 ((Y : Int) / 2) 3988292384 = ((P.crcBit Y : Nat) : Int) := by
              have e2 : ((Y : Int) / 2) = ((Y / 2 : Nat) : Int) := by simp
              rw [e2, show (3988292384 : Int) = ((3988292384 : Nat) : Int) by rfl, xor32 _ _ (by omega) (by omega)]
              unfold P.crcBit
              rw [if_pos hodd]
            have HS := Lib.hid hs
            clear e1 hodd hs
            go_wp2
            exact ⟨⟨j + 1, by omega, by go_num, by rw [HS.out, P.crcBits_succ, HY.out]⟩, by simp [intOf]; omega⟩
          · have t1 : (bits .and .u32 (Y : Int) 1 == 1) = false := by
              rw [e1, show Y % 2 = 0 by omega]; rfl
            have hs : ((Y : Int) / 2) = ((P.crcBit Y : Nat) : Int) := by
              unfold P.crcBit
              rw [if_neg hodd]
              simp
            have HS := Lib.hid hs
            clear e1 hodd hs
            go_wp2
            exact ⟨⟨j + 1, by omega, by go_num, by rw [HS.out, P.crcBits_succ, HY.out]⟩, by simp [intOf]; omega⟩
        · obtain rfl : j = 8 := by omega
          have hn : P.crcFrom 4294967295 (l.take (k + 1)) = Y := by
            rw [take_snoc l k (by omega), P.crcFrom_snoc, ← HX.out, HY.out]
            rfl
          have HN := Lib.hid hn
          clear hn
          go_wp2
          exact ⟨⟨k + 1, by omega, by go_num, by rw [HN.out]⟩, by simp [intOf]; omega⟩
    · obtain rfl : k = len := by omega
      obtain ⟨X, hX⟩ : ∃ X, X = P.crcFrom 4294967295 (l.take k) := ⟨_, rfl⟩
      rw [← hX]
      have hv : (((P.crc l : Nat) : Int)) = bits .xor .u32 IntKind.u32.max (X : Int) := by
        have hXb : X < 4294967296 := by rw [hX]; exact P.crcFrom_lt _ _ (by omega)
        rw [max32, xor32 _ _ (by omega) hXb, hX, List.take_of_length_le hlen1, Nat.xor_comm]
        rfl
      have HV := Lib.hid hv
      clear hX hv
      go_wp2
      go_ret
      exact ⟨by rw [HV.out]; rfl, rfl⟩
end Go.Proofs.YtnjpaanjgbfbaaaGreat
/- The walk of page.Seal. -/
namespace Go.Proofs.YtnjpaanjgbfbaaaGreat
set_option linter.unusedVariables false
set_option linter.unusedSimpArgs false
open Go.RowKit

theorem sealErr_cases (k l c : Int) (n : Nat) : (P.sealErr k l c n = 1 ∧ (k < 1 ∨ 5 < k ∨ l < 0 ∨ 255 < l ∨ c < 0 ∨ 65535 < c)) ∨
    ((1 ≤ k ∧ k ≤ 5 ∧ 0 ≤ l ∧ l ≤ 255 ∧ 0 ≤ c ∧ c ≤ 65535) ∧ ((P.sealErr k l c n = 3 ∧ 248 < n) ∨ (P.sealErr k l c n = 0 ∧ n ≤ 248))) := by
  unfold P.sealErr
  split
  · exact .inl ⟨rfl, by assumption⟩
  · right
    refine ⟨by omega, ?_⟩
    split
    · exact .inl ⟨rfl, by assumption⟩
    · exact .inr ⟨rfl, by omega⟩

end Go.Proofs.YtnjpaanjgbfbaaaGreat
