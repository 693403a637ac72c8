/- The walks of the references' lies, Get, Copy, Same. -/
import Derived.Test.YtnjpaanjgbfbaaaGreatJ02
import Derived.Test.YtnjpaanjgbfbaaaGreatJ01
import Derived.Deep.QuietTactic
import Derived.BigQuiet
namespace Go.Proofs.YtnjpaanjgbfbaaaGreat
set_option linter.unusedVariables false
set_option linter.unusedSimpArgs false
open Go.RowKit

set_option maxHeartbeats 400000 in
theorem rlies_any (a : Option Addr) (len cap : Nat) (at_ n : Int) (w : World) (hl : len ≤ maxLen) :
    Calls Tryz.prog 49 #[.slice a len cap, .int .i64 at_, .int .i64 n] w fun e w' => e = .returned (.bool (P.lies len at_ n)) ∧ w = w' := by
  unfold maxLen at hl
  by_cases h1 : 1 ≤ n
  · by_cases h2 : n ≤ 8
    · by_cases h3 : 0 ≤ at_
      · have hb : P.lies len at_ n = decide (at_ ≤ (len : Int) - n) := by unfold P.lies; rw [decide_eq_decide]; omega
        have HB := Lib.hid hb
        clear hb
        go_enter Tryz.func49, Tryz.ntmps49
        go_wp2
        go_ret
        exact ⟨by rw [HB.out]; rfl, rfl⟩
      · have hb : P.lies len at_ n = false := by unfold P.lies; rw [decide_eq_false_iff_not]; omega
        have HB := Lib.hid hb
        clear hb
        have c4 : decide (0 ≤ at_) = false := decide_eq_false h3
        go_enter Tryz.func49, Tryz.ntmps49
        go_wp2
        go_ret
        exact ⟨by rw [HB.out]; rfl, rfl⟩
    · have hb : P.lies len at_ n = false := by unfold P.lies; rw [decide_eq_false_iff_not]; omega
      have HB := Lib.hid hb
      clear hb
      have c4 : decide (n ≤ 8) = false := decide_eq_false h2
      go_enter Tryz.func49, Tryz.ntmps49
      go_wp2
      go_ret
      exact ⟨by rw [HB.out]; rfl, rfl⟩
  · have hb : P.lies len at_ n = false := by unfold P.lies; rw [decide_eq_false_iff_not]; omega
    have HB := Lib.hid hb
    clear hb
    have c4 : decide (1 ≤ n) = false := decide_eq_false h1
    go_enter Tryz.func49, Tryz.ntmps49
    go_wp2
    go_ret
    exact ⟨by rw [HB.out]; rfl, rfl⟩

set_option maxHeartbeats 400000 in
theorem rget_any (a : Option Addr) (len cap : Nat) (l : List UInt8) (at_ n : Int) (w : World) (hr : Rd w a len l) (hat : -9223372036854775808 ≤ at_ ∧ at_ ≤ 9223372036854775807) :
    Calls Tryz.prog 81 #[.slice a len cap, .int .i64 at_, .int .i64 n] w fun e w' =>
      e = .returned (.tuple #[.int .i64 (P.get l at_ n).1, .bool (P.get l at_ n).2]) ∧ w = w' := by
  have hl := hr.2.1
  have hlen := hr.1
  by_cases hb : P.lies len at_ n = true
  · have hs : 1 ≤ n ∧ n ≤ 8 ∧ 0 ≤ at_ ∧ at_ + n ≤ len := by simpa [P.lies] using hb
    obtain ⟨h1, h2, h3, h4⟩ := hs
    obtain ⟨p, rfl, hcell⟩ := hr.ptr (by omega)
    have HB := Lib.hid hb
    have HC := Lib.hid hcell
    have hlen1 : l.length ≤ len := by omega
    have hlen2 : len ≤ l.length := by omega
    have hl' := hl
    unfold maxLen at hl'
    clear hb hr hcell hlen
    obtain ⟨at_, rfl⟩ := Int.eq_ofNat_of_zero_le h3
    obtain ⟨n, rfl⟩ := Int.eq_ofNat_of_zero_le (Int.le_trans (by omega) h1)
    go_enter Tryz.func81, Tryz.ntmps81
    go_wp2_with fail
    refine (rlies_any _ _ _ _ _ _ hl).mono ?_
    rintro e w' ⟨rfl, rfl⟩
    rw [HB.out]
    go_wp2
    go_loop [8, 9] (fun x i => ∃ k : Nat, k ≤ n ∧ i = .int .i64 k ∧ x = .int .u64 ((P.num (P.slice l at_ k) : Nat) : Int)) (fun _ i => n - (intOf i).toNat)
    case atStart => exact ⟨0, by omega, rfl, rfl⟩
    case round =>
      obtain ⟨k, hk, rfl, rfl⟩ := hrel
      by_cases hlt : k < n
      · have hcell : w.cell? (p.add (at_ + k)) = some (.int .u8 (l[at_ + k].toNat : Int)) := HC.out (at_ + k) (by omega)
        have hnl := num_slice_lt l at_ k (by omega)
        have HN := Lib.hid (num_slice_succ l at_ k (by omega))
        have HO := Lib.hid (or_byte _ l[at_ + k] hnl)
        go_wp2
        go_round
        case rel => exact ⟨k + 1, by omega, by go_num, by rw [HN.out, ← HO.out]⟩
        case measure => simp [intOf]; omega
      · obtain rfl : k = n := by omega
        have hnl := P.num_lt (P.slice l at_ k)
        have hn8 : (P.slice l at_ k).length ≤ 8 := by unfold P.slice; simp; omega
        have hp8 : 256 ^ (P.slice l at_ k).length ≤ 256 ^ 8 := Nat.pow_le_pow_right (by omega) hn8
        have hnn : P.num (P.slice l at_ k) < 18446744073709551616 := by omega
        clear hnl hn8 hp8
        by_cases hgt : 4611686018427387904 < P.num (P.slice l at_ k)
        · have hv : P.get l at_ k = (0, false) := by
            unfold P.get
            rw [show l.length = len by omega, if_pos HB.out]
            simp [hgt]
          have HV := Lib.hid hv
          clear hv
          go_wp2
          go_ret2
          exact ⟨by rw [HV.out]; rfl, rfl⟩
        · have hv : P.get l at_ k = (((P.num (P.slice l at_ k) : Nat) : Int), true) := by
            unfold P.get
            rw [show l.length = len by omega, if_pos HB.out]
            simp [hgt]
          have HV := Lib.hid hv
          clear hv
          go_wp2
          go_ret2
          exact ⟨by rw [HV.out]; rfl, rfl⟩
  · have hv : P.get l at_ n = (0, false) := by
      unfold P.get
      rw [hlen, if_neg hb]
    have hb' : P.lies len at_ n = false := by simpa using hb
    have HB := Lib.hid hb'
    have HV := Lib.hid hv
    clear hv hb hb' hlen hr
    go_enter Tryz.func81, Tryz.ntmps81
    go_wp2_with fail
    refine (rlies_any _ _ _ _ _ _ hl).mono ?_
    rintro e w' ⟨rfl, rfl⟩
    rw [HB.out]
    go_wp2
    go_ret2
    exact ⟨by rw [HV.out]; rfl, rfl⟩

theorem take_snoc (l : List UInt8) (k : Nat) (h : k < l.length) : l.take (k + 1) = l.take k ++ [l[k]] := List.take_succ_eq_append_getElem h

set_option maxHeartbeats 400000 in
theorem copy_any (a : Option Addr) (len cap : Nat) (l : List UInt8) (w : World) (hr : Rd w a len l) (hm : len ≤ 140737488355328) :
    Calls Tryz.prog 31 #[.slice a len cap] w fun e w' => ∃ v, e = .returned v ∧ OB w' w.heap.size v l ∧ Below w.heap.size w w' := by
  have hlen1 : l.length ≤ len := by have := hr.1; omega
  have hlen2 : len ≤ l.length := by have := hr.1; omega
  have HR := Lib.hid hr
  clear hr
  go_enter Tryz.func31, Tryz.ntmps31
  go_wp2
  go_loopw [3, 4] (fun v i wr => ∃ k : Nat, k ≤ len ∧ i = .int .i64 k ∧ OB wr w.heap.size v (l.take k) ∧ Below w.heap.size w wr) (fun _ i _ => len - (intOf i).toNat)
  case atStart => exact ⟨0, by omega, rfl, OB.nil _ _, Below.refl _ _⟩
  case round =>
    obtain ⟨k, hk, rfl, hown, hbl⟩ := hrel
    by_cases hlt : k < len
    · obtain ⟨p, rfl, hc0⟩ := HR.out.at k (by omega)
      have hcell : wr.cell? (p.add k) = some (.int .u8 (l[k].toNat : Int)) := by rw [hbl.cell (lt_of_cell hc0)]; exact hc0
      have hsz := hbl.size
      go_wp2_with (at_builtin; go_loud (refine wpList_app _ rfl _ _ rfl w.heap.size u3 (l.take k) rfl (hown.alloc _) _ 1 1 [l[k]] rfl ?c1 ?c2 ?c3 ?_))
      case c1 => exact Rd_one _ _ _
      case c2 => simp; omega
      case c3 => simp; omega
      intro v1 w1 hown1 hg1 hat1
      go_wp2
      go_roundw
      case rel => exact ⟨k + 1, by omega, by go_num, hown1, (hown.alloc _).grown (hbl.alloc hsz _) (by simp; omega) hg1⟩
      case measure => simp [intOf]; omega
    · obtain rfl : k = len := by omega
      have e : l.take k = l := List.take_of_length_le hlen1
      have HO : OB wr w.heap.size u3 l := by rw [e] at hown; exact hown
      have HO := Lib.hid HO
      clear hown e
      go_wp2
      go_ret
      exact ⟨_, rfl, HO.out, hbl⟩

set_option maxHeartbeats 400000 in
theorem same_any (a b : Option Addr) (la lb ca cb : Nat) (l k : List UInt8) (w : World) (hl : Rd w a la l) (hk : Rd w b lb k) :
    Calls Tryz.prog 13 #[.slice a la ca, .slice b lb cb] w fun e w' => e = .returned (.bool (decide (l = k))) ∧ ∃ n, w' = w.drewN n := by
  have la1 : l.length ≤ la := by have := hl.1; omega
  have la2 : la ≤ l.length := by have := hl.1; omega
  have lb1 : k.length ≤ lb := by have := hk.1; omega
  have lb2 : lb ≤ k.length := by have := hk.1; omega
  have hm := hl.2.1
  unfold maxLen at hm
  have HL := Lib.hid hl
  have HK := Lib.hid hk
  clear hl hk
  by_cases hne : la = lb
  · subst hne
    go_enter Tryz.func13, Tryz.ntmps13
    go_wp2
    go_loopw [5] (fun i wr => ∃ j : Nat, j ≤ la ∧ i = .int .i64 j ∧ l.take j = k.take j ∧ ∃ n, wr = w.drewN n) (fun i _ => la - (intOf i).toNat)
    case atStart => exact ⟨0, by omega, rfl, rfl, 0, rfl⟩
    case round =>
      obtain ⟨j, hj, rfl, hpre, n, rfl⟩ := hrel
      have HP := Lib.hid hpre
      clear hpre
      by_cases hlt : j < la
      · obtain ⟨p, rfl, hc0⟩ := HL.out.at j (by omega)
        obtain ⟨q, rfl, hd0⟩ := HK.out.at j (by omega)
        unfold bv at hc0 hd0
        by_cases he : l[j] = k[j]
        · have ht : ((l[j].toNat : Int) != (k[j].toNat : Int)) = false := by simp [he]
          have HN : Hid (l.take (j + 1) = k.take (j + 1)) := by
            rw [Hid, take_snoc l j (by omega), take_snoc k j (by omega), HP.out, he]
          clear he
          go_wp2
          go_quiet (fail)
          go_wp2
          exact ⟨⟨j + 1, by omega, by go_num, HN.out, _, rfl⟩, by simp [intOf]; omega⟩
        · have ht : ((l[j].toNat : Int) != (k[j].toNat : Int)) = true := by
            simp only [bne_iff_ne, ne_eq]
            intro e
            exact he (UInt8.toNat_inj.1 (by omega))
          have hv : decide (l = k) = false := by
            rw [decide_eq_false_iff_not]
            rintro rfl
            exact he rfl
          have HV := Lib.hid hv
          clear hv he
          go_wp2
          go_quiet (fail)
          go_wp2
          go_ret
          exact ⟨by rw [HV.out]; rfl, n + nq, World.drewN_drewN ..⟩
      · obtain rfl : j = la := by omega
        have hv : decide (l = k) = true := by
          rw [decide_eq_true_iff]
          have e := HP.out
          rwa [List.take_of_length_le (by omega), List.take_of_length_le (by omega)] at e
        have HV := Lib.hid hv
        clear hv
        go_wp2
        go_ret
        exact ⟨by rw [HV.out]; rfl, n, rfl⟩
  · have ht : ((la : Int) != (lb : Int)) = true := by simp only [bne_iff_ne, ne_eq]; omega
    have hv : decide (l = k) = false := by
      rw [decide_eq_false_iff_not]
      rintro rfl
      omega
    have HV := Lib.hid hv
    clear hv hne
    go_enter Tryz.func13, Tryz.ntmps13
    go_wp2
    go_ret
    exact ⟨by rw [HV.out]; rfl, 0, rfl⟩
end Go.Proofs.YtnjpaanjgbfbaaaGreat
