/- The walks of octet.lies and octet.Get. -/
import Derived.Test.YtnjpaanjgbfbaaaGreatProg
import Derived.Test.YtnjpaanjgbfbaaaGreatJ00
import Derived.RegionTactic
import Derived.ChangeAlike
import Derived.Outline
namespace Go.Proofs.YtnjpaanjgbfbaaaGreat
set_option linter.unusedVariables false
set_option linter.unusedSimpArgs false
open Go.RowKit

set_option maxHeartbeats 400000 in
theorem lies_any (a : Option Addr) (len cap : Nat) (at_ n : Int) (w : World) (hl : len ≤ maxLen) :
    Calls Tryz.prog 86 #[.slice a len cap, .int .i64 at_, .int .i64 n] w fun e w' => e = .returned (.bool (P.lies len at_ n)) ∧ w = w' := by
  unfold maxLen at hl
  by_cases h1 : 1 ≤ n
  · by_cases h2 : n ≤ 8
    · by_cases h3 : 0 ≤ at_
      · by_cases h4 : n ≤ (len : Int)
        · have hb : P.lies len at_ n = decide (at_ ≤ (len : Int) - n) := by unfold P.lies; rw [decide_eq_decide]; omega
          have HB := Lib.hid hb
          clear hb
          go_enter Tryz.func86, Tryz.ntmps86
          go_wp2
          go_ret
          exact ⟨by rw [HB.out]; rfl, rfl⟩
        · have hb : P.lies len at_ n = false := by unfold P.lies; rw [decide_eq_false_iff_not]; omega
          have HB := Lib.hid hb
          clear hb
          have c4 : decide (n ≤ (len : Int)) = false := decide_eq_false h4
          go_enter Tryz.func86, Tryz.ntmps86
          go_wp2
          go_ret
          exact ⟨by rw [HB.out]; rfl, rfl⟩
      · have hb : P.lies len at_ n = false := by unfold P.lies; rw [decide_eq_false_iff_not]; omega
        have HB := Lib.hid hb
        clear hb
        have c4 : decide (0 ≤ at_) = false := decide_eq_false h3
        go_enter Tryz.func86, Tryz.ntmps86
        go_wp2
        go_ret
        exact ⟨by rw [HB.out]; rfl, rfl⟩
    · have hb : P.lies len at_ n = false := by unfold P.lies; rw [decide_eq_false_iff_not]; omega
      have HB := Lib.hid hb
      clear hb
      have c4 : decide (n ≤ 8) = false := decide_eq_false h2
      go_enter Tryz.func86, Tryz.ntmps86
      go_wp2
      go_ret
      exact ⟨by rw [HB.out]; rfl, rfl⟩
  · have hb : P.lies len at_ n = false := by unfold P.lies; rw [decide_eq_false_iff_not]; omega
    have HB := Lib.hid hb
    clear hb
    have c4 : decide (1 ≤ n) = false := decide_eq_false h1
    go_enter Tryz.func86, Tryz.ntmps86
    go_wp2
    go_ret
    exact ⟨by rw [HB.out]; rfl, rfl⟩

theorem or_byte (x : Nat) (c : UInt8) (hx : x < 72057594037927936) :
    bits .or .u64 ((x : Int) * 256) (IntKind.u64.wrap (c.toNat : Int)) = ((x * 256 + c.toNat : Nat) : Int) := by
  have hc := c.toNat_lt
  have e1 : (x : Int) * 256 = ((x * 256 : Nat) : Int) := by omega
  have e2 : IntKind.u64.wrap (c.toNat : Int) = ((c.toNat : Nat) : Int) := by rw [IntKind.wrap_u64]; omega
  rw [e1, e2, bits_or_u64_nat _ _ (by omega) (by omega)]
  congr 1
  have : (2 ^ 8 * x + c.toNat) = 2 ^ 8 * x ||| c.toNat := Nat.two_pow_add_eq_or_of_lt (by omega) x
  rw [Nat.mul_comm x 256]
  exact this.symm

/-- The closure's round: the byte comes behind the number, the place goes on. -/
theorem get1_any (w : World) (bx bb bt : Nat) (x at_ : Nat) (p : Addr) (len cap : Nat) (c : UInt8) (hne : bx ≠ bt)
    (hx : w.heap[bx]? = some (.cells #[.int .u64 x] 168 (0, 0))) (hb : w.heap[bb]? = some (.cells #[.slice (some p) len cap] 22 (0, 0)))
    (ht : w.heap[bt]? = some (.cells #[.int .i64 at_] 3 (0, 0)))
    (hx1 : x < 72057594037927936) (h1 : (at_ : Int) < len) (hl : len ≤ maxLen) (hc : w.cell? (p.add at_) = some (bv c)) :
    Calls Tryz.prog 87 #[.pointer (some ⟨bx, 0, none⟩), .pointer (some ⟨bb, 0, none⟩), .pointer (some ⟨bt, 0, none⟩)] w fun e w' =>
      e = .returned (.tuple #[]) ∧ w'.heap[bx]? = some (.cells #[.int .u64 ((x * 256 + c.toNat : Nat) : Int)] 168 (0, 0)) ∧
      w'.heap[bt]? = some (.cells #[.int .i64 ((at_ + 1 : Nat) : Int)] 3 (0, 0)) ∧ Chg (fun k => k = bx ∨ k = bt) w w' := by
  unfold maxLen at hl
  have cx := cell_of_one hx
  have cb := cell_of_one hb
  have ct := cell_of_one ht
  have fx := free_of_one hx
  have ft := free_of_one ht
  have HX := Lib.hid hx
  have HT := Lib.hid ht
  have HO := Lib.hid (or_byte x c hx1)
  unfold bv at hc
  clear hx hb ht
  go_enter Tryz.func87, Tryz.ntmps87
  go_wp2
  go_region
  go_wp2
  go_end0
  refine ⟨rfl, ?_, ?_, ?_⟩
  · show ((w.setCell _ _).setCell _ _).heap[bx]? = _
    rw [Below.heap_setCell _ _ _ _ (by exact hne), ← HO.out]
    exact one_setCell HX.out
  · exact one_setCell (v := .int .i64 at_) (by rw [Below.heap_setCell _ _ _ _ (by exact fun e => hne e.symm)]; exact HT.out)
  · exact (((Chg.refl _ w).setCell _ _ (.inr (.inl rfl))).setCell _ _ (.inr (.inr rfl))).drew

theorem num_slice_succ (l : List UInt8) (at_ k : Nat) (h : at_ + k < l.length) : P.num (P.slice l at_ (k + 1)) = P.num (P.slice l at_ k) * 256 + (l[at_ + k]).toNat := by
  unfold P.slice
  rw [List.take_succ_eq_append_getElem (by simp; omega), P.num_snoc]
  simp
theorem num_slice_lt (l : List UInt8) (at_ k : Nat) (h : k < 8) : P.num (P.slice l at_ k) < 72057594037927936 := by
  have h1 := P.num_lt (P.slice l at_ k)
  have h2 : (P.slice l at_ k).length ≤ 7 := by unfold P.slice; simp; omega
  have h3 : 256 ^ (P.slice l at_ k).length ≤ 256 ^ 7 := Nat.pow_le_pow_right (by omega) h2
  omega

set_option maxHeartbeats 400000 in
theorem get_any (a : Option Addr) (len cap : Nat) (l : List UInt8) (at_ n : Int) (w : World) (hr : Rd w a len l) (hat : -9223372036854775808 ≤ at_ ∧ at_ ≤ 9223372036854775807) :
    Calls Tryz.prog 74 #[.slice a len cap, .int .i64 at_, .int .i64 n] w fun e w' =>
      e = .returned (.tuple #[.int .i64 (P.get l at_ n).1, .bool (P.get l at_ n).2]) ∧ Below w.heap.size w w' := by
  have hl := hr.2.1
  have hlen := hr.1
  by_cases hb : P.lies len at_ n = true
  · have hs : 1 ≤ n ∧ n ≤ 8 ∧ 0 ≤ at_ ∧ at_ + n ≤ len := by simpa [P.lies] using hb
    obtain ⟨h1, h2, h3, h4⟩ := hs
    obtain ⟨p, rfl, hcell⟩ := hr.ptr (by omega)
    have hp : p.block < w.heap.size := hr.lt (by omega) p rfl
    have HB := Lib.hid hb
    have HR := Lib.hid hr
    have HC := Lib.hid hcell
    have hlen1 : l.length ≤ len := by omega
    have hlen2 : len ≤ l.length := by omega
    clear hb hr hcell hlen
    obtain ⟨at_, rfl⟩ := Int.eq_ofNat_of_zero_le h3
    obtain ⟨n, rfl⟩ := Int.eq_ofNat_of_zero_le (Int.le_trans (by omega) h1)
    go_enter Tryz.func74, Tryz.ntmps74
    go_wp2_with fail
    refine (lies_any _ _ _ _ _ _ hl).mono ?_
    rintro e w' ⟨rfl, rfl⟩
    rw [HB.out]
    go_wp2
    go_loopw [17] (fun i wr => ∃ k : Nat, k ≤ n ∧ i = .int .i64 k ∧ wr.heap[w.heap.size]? = some (.cells #[.slice (some p) len cap] 22 (0, 0)) ∧
        wr.heap[w.heap.size + 1]? = some (.cells #[.int .i64 ((at_ + k : Nat) : Int)] 3 (0, 0)) ∧
        wr.heap[w.heap.size + 1 + 1]? = some (.cells #[.int .u64 ((P.num (P.slice l at_ k) : Nat) : Int)] 168 (0, 0)) ∧ Below w.heap.size w wr)
      (fun i _ => n - (intOf i).toNat)
    case atStart =>
      refine ⟨0, by omega, rfl, ?_, ?_, ?_, ?_⟩
      · exact alloc_old (alloc_old (alloc_new _ _ _ rfl) _) _
      · exact alloc_old (alloc_new _ _ _ (by simp)) _
      · exact alloc_new _ _ _ (by simp)
      · exact (((Below.refl _ w).alloc (by simp) _).alloc (by simp) _).alloc (by simp; omega) _
    case round =>
      obtain ⟨k, hk, rfl, hbb, hbt, hbx, hbl⟩ := hrel
      by_cases hlt : k < n
      · have hcell : wr.cell? (p.add (at_ + k)) = some (bv l[at_ + k]) := by
          rw [hbl.cell (by rw [add_block]; exact hp)]
          exact HC.out (at_ + k) (by omega)
        have hnl := num_slice_lt l at_ k (by omega)
        have hns := num_slice_succ l at_ k (by omega)
        have HN := Lib.hid hns
        have HBB := Lib.hid hbb
        have HBT := Lib.hid hbt
        have HBX := Lib.hid hbx
        have HCC := Lib.hid hcell
        clear hbb hbt hbx hcell hns
        go_wp2_with fail
        refine (get1_any _ _ _ _ _ _ _ _ _ _ (by omega) HBX.out HBB.out HBT.out hnl (by omega) hl HCC.out).mono ?_
        rintro e w' ⟨rfl, g1, g2, g3⟩
        have G1 := Lib.hid g1
        have G2 := Lib.hid g2
        clear g1 g2
        go_wp2
        go_roundw
        case rel =>
          refine ⟨k + 1, by omega, by go_num, ?_, G2.out, by rw [HN.out]; exact G1.out, below_chg hbl g3 hbl.size (fun i hi => by omega)⟩
          rw [g3.block _ (lt_of_block HBB.out) (by omega)]
          exact HBB.out
        case measure => simp [intOf]; omega
      · obtain rfl : k = n := by omega
        have hcx := cell_of_one hbx
        have hnl := P.num_lt (P.slice l at_ k)
        have hn8 : (P.slice l at_ k).length ≤ 8 := by unfold P.slice; simp; omega
        have hp8 : 256 ^ (P.slice l at_ k).length ≤ 256 ^ 8 := Nat.pow_le_pow_right (by omega) hn8
        have hnn : P.num (P.slice l at_ k) < 18446744073709551616 := by omega
        clear hbb hbt hbx hnl hn8 hp8
        by_cases hgt : 4611686018427387904 < P.num (P.slice l at_ k)
        · have hv : P.get l at_ k = (0, false) := by
            unfold P.get
            rw [show l.length = len by omega, if_pos HB.out]
            simp [hgt]
          have HV := Lib.hid hv
          clear hv
          go_wp2
          go_ret2
          exact ⟨by rw [HV.out]; rfl, hbl⟩
        · have hv : P.get l at_ k = (((P.num (P.slice l at_ k) : Nat) : Int), true) := by
            unfold P.get
            rw [show l.length = len by omega, if_pos HB.out]
            simp [hgt]
          have HV := Lib.hid hv
          clear hv
          go_wp2
          go_ret2
          exact ⟨by rw [HV.out]; rfl, hbl⟩
  · have hv : P.get l at_ n = (0, false) := by
      unfold P.get
      rw [hlen, if_neg hb]
    have hb' : P.lies len at_ n = false := by simpa using hb
    have HB := Lib.hid hb'
    have HV := Lib.hid hv
    clear hv hb hb' hlen hr
    go_enter Tryz.func74, Tryz.ntmps74
    go_wp2_with fail
    refine (lies_any _ _ _ _ _ _ hl).mono ?_
    rintro e w' ⟨rfl, rfl⟩
    rw [HB.out]
    go_wp2
    go_ret2
    exact ⟨by rw [HV.out]; rfl, (((Below.refl _ w).alloc (by simp) _).alloc (by simp) _)⟩
end Go.Proofs.YtnjpaanjgbfbaaaGreat
