/- The walks of octet.Put and of the reference's. -/
import Derived.Test.YtpdmhnppibfmkaaOcB
namespace Go.Proofs.Ytpdmhnppibfmkaa
set_option linter.unusedVariables false
set_option linter.unusedSimpArgs false
open Go.RowKit

theorem pow_shl (n : Nat) : (2 : Int) ^ (8 * n) = ((256 ^ n : Nat) : Int) := by
  have h : 2 ^ (8 * n) = 256 ^ n := by rw [Nat.pow_mul]
  rw [← h]
  norm_cast
theorem pow7 (n : Nat) (h : n < 8) : 256 ^ n ≤ 72057594037927936 := by
  have := Nat.pow_le_pow_right (n := 256) (by omega) (show n ≤ 7 by omega)
  omega
theorem pow_pos' (n : Nat) : 0 < 256 ^ n := Nat.pow_pos (by omega)

/-- The bytes of a number, one by one. -/
theorem be_at (n x i : Nat) (h : i < n) : (P.be n x)[i]'(by rw [P.be_length]; exact h) = UInt8.ofNat (x / 256 ^ (n - 1 - i) % 256) := by
  induction n generalizing x with
  | zero => omega
  | succ n ih =>
    by_cases hi : i < n
    · have e := ih (x / 256) hi
      simp only [P.be]
      rw [List.getElem_append_left (by rw [P.be_length]; exact hi), e, Nat.div_div_eq_div_mul, ← Nat.pow_succ']
      congr 4
      omega
    · have : i = n := by omega
      subst this
      simp [P.be, P.be_length]

/-- Bytes laid from behind. -/
def downTo (l b : List UInt8) (at_ m : Nat) : List UInt8 := l.take (at_ + m) ++ b.drop m ++ l.drop (at_ + b.length)
theorem downTo_step (l b : List UInt8) (at_ m : Nat) (hb : at_ + b.length ≤ l.length) (hm : m < b.length) : (downTo l b at_ (m + 1)).set (at_ + m) b[m] = downTo l b at_ m := by
  have e : b.drop m = b[m] :: b.drop (m + 1) := List.drop_eq_getElem_cons hm
  unfold downTo
  rw [show at_ + (m + 1) = (at_ + m) + 1 by omega, take_snoc l (at_ + m) (by omega), e]
  have hl : (l.take (at_ + m)).length = at_ + m := by simp; omega
  rw [List.append_assoc, List.append_assoc, List.set_append_right _ _ (by omega), hl]
  simp only [List.set_cons_zero, List.append_assoc, List.cons_append, List.nil_append, Nat.sub_self]
/-- Bytes laid from ahead. -/
def upTo (l b : List UInt8) (at_ m : Nat) : List UInt8 := l.take at_ ++ b.take m ++ l.drop (at_ + m)
theorem upTo_step (l b : List UInt8) (at_ m : Nat) (hb : at_ + b.length ≤ l.length) (hm : m < b.length) : (upTo l b at_ m).set (at_ + m) b[m] = upTo l b at_ (m + 1) := by
  have e : l.drop (at_ + m) = l[at_ + m]'(by omega) :: l.drop (at_ + m + 1) := List.drop_eq_getElem_cons (by omega)
  unfold upTo
  have hl : (l.take at_ ++ b.take m).length = at_ + m := by simp; omega
  rw [List.set_append_right _ _ (by omega), hl, e, take_snoc b m hm]
  simp only [List.set_cons_zero, List.append_assoc, List.cons_append, List.nil_append, Nat.sub_self, show at_ + (m + 1) = at_ + m + 1 by omega]
theorem downTo_length (l b : List UInt8) (at_ m : Nat) (hb : at_ + b.length ≤ l.length) (hm : m ≤ b.length) : (downTo l b at_ m).length = l.length := by simp [downTo]; omega
theorem upTo_length (l b : List UInt8) (at_ m : Nat) (hb : at_ + b.length ≤ l.length) (hm : m ≤ b.length) : (upTo l b at_ m).length = l.length := by simp [upTo]; omega
theorem downTo_all (l b : List UInt8) (at_ : Nat) : downTo l b at_ b.length = l := by simp [downTo]
theorem upTo_none (l b : List UInt8) (at_ : Nat) : upTo l b at_ 0 = l := by simp [upTo]

/-- What a Put tells. -/
def PutEnd (w : World) (r : Option (List UInt8)) (e : Ending) (w' : World) : Prop :=
  match r with
  | none => e = .returned (.tuple #[.slice none 0 0, .bool false])
  | some l => ∃ v, e = .returned (.tuple #[v, .bool true]) ∧ OB w' w.heap.size v l

set_option maxHeartbeats 400000 in
theorem put_bad (a : Option Addr) (len cap : Nat) (l : List UInt8) (at_ n x : Int) (w : World) (hr : Rd w a len l) (hn : P.put l at_ n x = none)
    (hx : -9223372036854775808 ≤ x ∧ x ≤ 9223372036854775807) :
    Calls Try.prog 53 #[.slice a len cap, .int .i64 at_, .int .i64 n, .int .i64 x] w fun e w' =>
      e = .returned (.tuple #[.slice none 0 0, .bool false]) ∧ w = w' := by
  have hl := hr.2.1
  have hlen := hr.1
  by_cases hb : P.lies len at_ n = true
  · have hs : 1 ≤ n ∧ n ≤ 8 ∧ 0 ≤ at_ ∧ at_ + n ≤ len := by simpa [P.lies] using hb
    obtain ⟨h1, h2, h3, h4⟩ := hs
    have hq : ¬ (0 ≤ x ∧ x ≤ 4611686018427387904 ∧ x < 256 ^ n.toNat) := by
      intro h
      simp [P.put, hlen, hb, h] at hn
    have HB := Lib.hid hb
    clear hb hr hlen hn
    obtain ⟨n, rfl⟩ := Int.eq_ofNat_of_zero_le (Int.le_trans (by omega) h1)
    by_cases hx0 : x < 0
    · clear hq
      go_enter Try.func53, Try.ntmps53
      go_wp2_with fail
      refine (lies_any _ _ _ _ _ _ hl).mono ?_
      rintro e w' ⟨rfl, rfl⟩
      rw [HB.out]
      go_wp2
      go_ret2
      exact ⟨rfl, rfl⟩
    by_cases hx1 : 4611686018427387904 < x
    · clear hq
      have c1 : decide (x < 0) = false := decide_eq_false hx0
      have c2 : decide (4611686018427387904 < x) = true := decide_eq_true hx1
      go_enter Try.func53, Try.ntmps53
      go_wp2_with fail
      refine (lies_any _ _ _ _ _ _ hl).mono ?_
      rintro e w' ⟨rfl, rfl⟩
      rw [HB.out]
      go_wp2
      go_ret2
      exact ⟨rfl, rfl⟩
    have h256 : ((256 ^ n : Nat) : Int) ≤ x := by
      rcases Int.lt_or_le x ((256 ^ n : Nat) : Int) with h | h
      · exfalso
        apply hq
        refine ⟨by omega, by omega, ?_⟩
        rw [Int.toNat_natCast]
        simpa using h
      · exact h
    clear hq
    have h8 : n < 8 := by
      rcases Nat.lt_or_ge n 8 with h | h
      · exact h
      · have e : n = 8 := by omega
        subst e
        omega
    have c3 : ((x / 2 ^ (8 * n)) != 0) = true := by
      rw [pow_shl, bne_iff_ne]
      have := pow_pos' n
      have h1 : 1 ≤ x / ((256 ^ n : Nat) : Int) := (Int.le_ediv_iff_mul_le (by omega)).2 (by omega)
      omega
    have h8' : (n : Int) < 8 := by omega
    clear h256 h2 h8
    have c1 : decide (x < 0) = false := decide_eq_false hx0
    have c2 : decide (4611686018427387904 < x) = false := decide_eq_false hx1
    go_enter Try.func53, Try.ntmps53
    go_wp2_with fail
    refine (lies_any _ _ _ _ _ _ hl).mono ?_
    rintro e w' ⟨rfl, rfl⟩
    rw [HB.out]
    go_wp2
    go_ret2
    exact ⟨rfl, rfl⟩
  · have hb' : P.lies len at_ n = false := by simpa using hb
    have HB := Lib.hid hb'
    clear hb hb' hlen hr hn
    go_enter Try.func53, Try.ntmps53
    go_wp2_with fail
    refine (lies_any _ _ _ _ _ _ hl).mono ?_
    rintro e w' ⟨rfl, rfl⟩
    rw [HB.out]
    go_wp2
    go_ret2
    exact ⟨rfl, rfl⟩

theorem byte_of (x : Nat) : IntKind.u8.wrap (x : Int) = ((UInt8.ofNat (x % 256)).toNat : Int) := by
  rw [IntKind.wrap_u8]
  simp

set_option maxHeartbeats 800000 in
theorem put_good (a : Option Addr) (len cap : Nat) (l k : List UInt8) (at_ n x : Int) (w : World) (hr : Rd w a len l) (hn : P.put l at_ n x = some k) (hm : len ≤ 140737488355328) :
    Calls Try.prog 53 #[.slice a len cap, .int .i64 at_, .int .i64 n, .int .i64 x] w fun e w' =>
      ∃ v, e = .returned (.tuple #[v, .bool true]) ∧ OB w' w.heap.size v k ∧ Below w.heap.size w w' := by
  have hl := hr.2.1
  have hlen := hr.1
  unfold P.put at hn
  split at hn
  case isFalse => cases hn
  rename_i hc
  obtain ⟨hb, hx0, hx1, hx2⟩ := hc
  have hk := Option.some.inj hn
  clear hn
  rw [hlen] at hb
  have hs : 1 ≤ n ∧ n ≤ 8 ∧ 0 ≤ at_ ∧ at_ + n ≤ len := by simpa [P.lies] using hb
  obtain ⟨h1, h2, h3, h4⟩ := hs
  obtain ⟨n, rfl⟩ := Int.eq_ofNat_of_zero_le (Int.le_trans (by omega) h1)
  obtain ⟨at_, rfl⟩ := Int.eq_ofNat_of_zero_le h3
  rw [Int.toNat_natCast] at hx2
  rw [Int.toNat_natCast, Int.toNat_natCast] at hk
  have HB := Lib.hid hb
  have HR := Lib.hid hr
  have HK := Lib.hid hk
  have hlen1 : l.length ≤ len := by omega
  have hlen2 : len ≤ l.length := by omega
  have c1 : decide (x < 0) = false := decide_eq_false (by omega)
  have c2 : decide (4611686018427387904 < x) = false := decide_eq_false (by omega)
  have c3 : ((x / 2 ^ (8 * n)) != 0) = false := by
    rw [pow_shl, bne_eq_false_iff_eq]
    exact Int.ediv_eq_zero_of_lt hx0 (by simpa using hx2)
  clear hb hr hk hlen hx2
  obtain ⟨y, hy⟩ := Int.eq_ofNat_of_zero_le hx0
  have HY := Lib.hid hy
  have HZ : Hid (x.toNat = y) := by rw [Hid]; omega
  clear hy
  have hbl : (P.be n y).length = n := P.be_length n y
  cases h8 : decide ((n : Int) < 8)
  all_goals
    go_enter Try.func53, Try.ntmps53
    go_wp2_with fail
    refine (lies_any _ _ _ _ _ _ hl).mono ?_
    rintro e w' ⟨rfl, rfl⟩
    rw [HB.out]
    go_wp2_with (at_builtin; refine wpList_app _ rfl _ _ rfl w.heap.size _ [] rfl (OB.nil _ _) _ _ _ l rfl HR.out ?c1 ?c2 ?_)
    case c1 => simp only [List.length_nil, Nat.zero_add]; omega
    case c2 => exact Nat.le_refl _
    intro v1 w1 hown1 hg1 hat1
    have hbl1 : Below w.heap.size w w1 := (OB.nil w w.heap.size).grown (Below.refl _ w) (Nat.le_refl _) hg1
    obtain ⟨g, cp, hv1, hgB, hgl, _, _⟩ := hown1.pos (by first | omega | (simp; omega))
    subst hv1
    have HO1 := Lib.hid hown1
    clear hown1 hat1 hg1
    go_wp2
    go_loopw [3, 11] (fun x' i wr => ∃ m : Nat, m ≤ n ∧ i = .int .i64 ((m : Int) - 1) ∧ x' = .int .i64 ((y / 256 ^ (n - m) : Nat) : Int) ∧
        OB wr w.heap.size (.slice (some ⟨g, 0, none⟩) l.length cp) (downTo l (P.be n y) at_ m) ∧ Below w.heap.size w wr) (fun _ i _ => (intOf i + 1).toNat)
    case atStart =>
      refine ⟨n, by omega, rfl, by rw [HY.out, Nat.sub_self, Nat.pow_zero, Nat.div_one], ?_, hbl1⟩
      have e := downTo_all l (P.be n y) at_
      rw [hbl] at e
      rw [e]
      exact HO1.out
    case round =>
      obtain ⟨m, hmn, rfl, rfl, hown, hb2⟩ := hrel
      have hsz := hb2.size
      rcases m with _ | m
      · have HE : Hid (OB wr w.heap.size (.slice (some ⟨g, 0, none⟩) l.length cp) k) := by
          rw [Hid, ← HK.out, HZ.out]
          have e : downTo l (P.be n y) at_ 0 = l.take at_ ++ P.be n y ++ l.drop (at_ + n) := by simp [downTo, hbl]
          rw [← e]
          exact hown
        clear hown
        go_wp2
        go_ret2
        exact ⟨_, rfl, HE.out, hb2⟩
      · rw [show (((m + 1 : Nat) : Int) - 1) = (m : Int) by omega]
        have hlen3 := downTo_length l (P.be n y) at_ (m + 1) (by omega) (by omega)
        obtain ⟨u, hcell⟩ : ∃ u, wr.cell? ⟨g, at_ + m, none⟩ = some u := ⟨_, hown.cell (at_ + m) (by omega)⟩
        have hfree := hown.free (at_ + m)
        obtain ⟨q, hq⟩ : ∃ q, q = y / 256 ^ (n - (m + 1)) := ⟨_, rfl⟩
        rw [← hq]
        have HS := Lib.hid (hown.stored (at_ + m) (UInt8.ofNat (q % 256)))
        have hbm : (P.be n y)[m]'(by omega) = UInt8.ofNat (q % 256) := by rw [be_at n y m (by omega), hq, show n - 1 - m = n - (m + 1) by omega]
        have hst := downTo_step l (P.be n y) at_ m (by omega) (by omega)
        rw [hbm] at hst
        have HT := Lib.hid hst
        have hnext : q / 256 = y / 256 ^ (n - m) := by
          rw [hq, Nat.div_div_eq_div_mul, ← Nat.pow_succ]
          congr 2
          omega
        have HN := Lib.hid hnext
        clear hown hlen3 hq hbm hst hnext
        go_wp2
        refine ⟨⟨m, by omega, rfl, ?_, ?_, hb2.setCell hgB _⟩, by simp [intOf]⟩
        · rw [← HN.out]; simp
        · rw [← HT.out]
          have e := HS.out
          unfold bv at e
          rw [show ((q : Int) % 256) = ((UInt8.ofNat (q % 256)).toNat : Int) by simp]
          exact e
end Go.Proofs.Ytpdmhnppibfmkaa
