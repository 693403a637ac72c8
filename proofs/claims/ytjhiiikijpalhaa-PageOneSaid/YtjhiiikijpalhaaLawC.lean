/- The walks of the laws OctetOrders and OctetKnown. -/
import Derived.Test.YtjhiiikijpalhaaLawB
import Derived.Laws.BytesArg
import Derived.Lib.SlBytesConst
namespace Go.Proofs.Ytjhiiikijpalhaa
set_option linter.unusedVariables false
set_option linter.unusedSimpArgs false
open Go.RowKit

theorem Rd.take {w : World} {a : Option Addr} {len : Nat} {l : List UInt8} (h : Rd w a len l) (n : Nat) (hn : n ≤ len) : Rd w a n (l.take n) :=
  ⟨by have := h.1; simp; omega, by have := h.2.1; omega, fun i hi => by
    simp at hi
    obtain ⟨p, e, hp⟩ := h.2.2 i (by omega)
    exact ⟨p, e, by simpa using hp⟩⟩

theorem run_conv_str (w : World) (a : Option Addr) (len cap : Nat) (l : List UInt8) (hr : Rd w a len l) :
    (convert 22 9 (.slice a len cap)).run Try.prog w = .ok (.string ⟨l.toArray⟩) w := by
  rw [run_convert_bytes_string w _ _ _ _ _ _ Try.underlying22 Try.underlying5 Try.underlying9]
  rcases a with _ | p
  · have hl : l = [] := by
      rcases l with _ | ⟨x, l⟩
      · rfl
      · obtain ⟨p, e, _⟩ := hr.2.2 0 (by simp)
        cases e
    subst hl
    simp [Conv.bytesToString]
    rfl
  · have hlc : (loadCells p len).run Try.prog w = .ok ((l.map fun c => (c.toNat : Int)).map (Value.int .u8)).toArray w := by
      have := run_loadCells_list (P := Try.prog) w p ((l.map fun c => (c.toNat : Int)).map (Value.int .u8)) (fun j v hj => by
        simp only [List.getElem?_map, Option.map_eq_some_iff] at hj
        obtain ⟨x, ⟨y, hy, rfl⟩, rfl⟩ := hj
        obtain ⟨hj, rfl⟩ := List.getElem?_eq_some_iff.1 hy
        obtain ⟨q, e, hq⟩ := hr.2.2 j hj
        cases e
        exact hq)
      simpa [hr.1] using this
    rw [run_bytesToString w _ len cap _ hlc, foldl_push_bytes]
    simp [ByteArray.empty, ByteArray.emptyWithCapacity, Function.comp_def]
    rfl

theorem less_pre (c a b : List UInt8) : Op.bytesLess (c ++ a) (c ++ b) = Op.bytesLess a b := by
  induction c with
  | nil => rfl
  | cons x c ih => simp [Op.bytesLess, ih]
theorem less_irrefl (a : List UInt8) : Op.bytesLess a a = false := by
  induction a with
  | nil => rfl
  | cons x a ih => simp [Op.bytesLess, ih]
theorem less_snoc (a b s t : List UInt8) (h : a.length = b.length) : Op.bytesLess (a ++ s) (b ++ t) = (Op.bytesLess a b || (decide (a = b) && Op.bytesLess s t)) := by
  induction a generalizing b with
  | nil =>
    have : b = [] := List.eq_nil_of_length_eq_zero h.symm
    subst this
    simp [Op.bytesLess]
  | cons x a ih =>
    rcases b with _ | ⟨y, b⟩
    · simp at h
    · simp only [List.cons_append, Op.bytesLess, ih b (by simpa using h)]
      by_cases hxy : x = y
      · subst hxy
        simp
      · have e : (x == y) = false := by simpa using hxy
        simp [hxy, e]
theorem be_inj (n x y : Nat) (hx : x < 256 ^ n) (hy : y < 256 ^ n) (h : P.be n x = P.be n y) : x = y := by
  rw [← P.num_be n x hx, ← P.num_be n y hy, h]
theorem less_be (n x y : Nat) (hx : x < 256 ^ n) (hy : y < 256 ^ n) : Op.bytesLess (P.be n x) (P.be n y) = decide (x < y) := by
  induction n generalizing x y with
  | zero => simp at hx hy; subst hx; subst hy; rfl
  | succ n ih =>
    rw [Nat.pow_succ] at hx hy
    have e : (decide (P.be n (x / 256) = P.be n (y / 256))) = decide (x / 256 = y / 256) := by
      rw [decide_eq_decide]
      exact ⟨fun h => be_inj n _ _ (by omega) (by omega) h, fun h => by rw [h]⟩
    have e2 : Op.bytesLess [UInt8.ofNat (x % 256)] [UInt8.ofNat (y % 256)] = decide (x % 256 < y % 256) := by
      simp only [Op.bytesLess, Bool.and_false, Bool.or_false]
      rw [decide_eq_decide, UInt8.lt_iff_toNat_lt]
      simp
    simp only [P.be]
    rw [less_snoc _ _ _ _ (by rw [P.be_length, P.be_length]), ih _ _ (by omega) (by omega), e, e2]
    rw [Bool.eq_iff_iff]
    simp
    omega

theorem put8 (l : List UInt8) (x : Int) (h0 : 0 ≤ x) (h1 : x ≤ 4611686018427387904) :
    P.put (l ++ [0, 0, 0, 0, 0, 0, 0, 0, 7]) l.length 8 x = some (l ++ P.be 8 x.toNat ++ [7]) := by
  have hb : P.lies (l ++ [0, 0, 0, 0, 0, 0, 0, 0, 7]).length l.length 8 = true := by
    unfold P.lies
    apply decide_eq_true
    simp
  have h2 : x < 256 ^ (8 : Int).toNat := by
    have : ((256 : Int) ^ (8 : Int).toNat) = 18446744073709551616 := by decide
    omega
  unfold P.put
  rw [if_pos ⟨hb, h0, h1, h2⟩]
  simp

set_option maxHeartbeats 1600000 in
theorem octetOrders_walk (a : Option Addr) (len cap : Nat) (l : List UInt8) (x y : Int) (w : World) (hr : Rd w a len l) (hc : len ≤ cap)
    (hx : -9223372036854775808 ≤ x ∧ x ≤ 9223372036854775807) (hy : -9223372036854775808 ≤ y ∧ y ≤ 9223372036854775807) :
    Calls Try.prog 6 #[.slice a len cap, .int .i64 x, .int .i64 y] w fun e w' => e = .returned (.bool true) ∧ Below w.heap.size w w' := by
  obtain rfl := hr.1
  have HR := Lib.hid hr
  clear hr
  by_cases hg : l.length ≤ 1000 ∧ 0 ≤ x ∧ 0 ≤ y ∧ x ≤ 4611686018427387904 ∧ y ≤ 4611686018427387904
  · obtain ⟨hl, hx0, hy0, hx1, hy1⟩ := hg
    have c1 : decide (1000 < (l.length : Int)) = false := decide_eq_false (by omega)
    have c2 : decide (x < 0) = false := decide_eq_false (by omega)
    have c3 : decide (y < 0) = false := decide_eq_false (by omega)
    have c4 : decide (4611686018427387904 < x) = false := decide_eq_false (by omega)
    have c5 : decide (4611686018427387904 < y) = false := decide_eq_false (by omega)
    go_enter Try.func6, Try.ntmps6
    go_wp2_with fail
    refine (awake1_any _).mono ?_
    rintro e w1 ⟨rfl, hb1⟩
    go_wp2_with fail
    refine (copy_any _ _ _ l _ (HR.out.below hb1) (by omega)).mono ?_
    rintro e w2 ⟨v, rfl, hown, hb2⟩
    have hb2' := below_then hb1 hb2 hb1.size
    go_wp2_with (at_builtin; refine wpList_app _ rfl _ _ rfl w1.heap.size v l rfl (hown.alloc _) _ _ _ [0, 0, 0, 0, 0, 0, 0, 0, 7] rfl (Rd_lit _ _ [0, 0, 0, 0, 0, 0, 0, 0, 7] (by simp [maxLen])) ?c1 ?c2 ?_)
    case c1 => simp; omega
    case c2 => have := hb2.size; simp; omega
    intro v3 w3 hown3 hg3 hat3
    have hb3' : Below w.heap.size w w3 := ((hown.alloc _).grown (hb2.alloc hb2.size _) (by have := hb2.size; simp; omega) hg3).mono hb1.size |> fun h => hb1.trans h
    have hsz3 := hb3'.size
    obtain ⟨L, hL⟩ : ∃ L, L = l ++ [(0 : UInt8), 0, 0, 0, 0, 0, 0, 0, 7] := ⟨_, rfl⟩
    rw [← hL] at hown3
    have hLl : L.length ≤ 2000 := by rw [hL]; simp; omega
    have hpx := put8 l x hx0 hx1
    have hpy := put8 l y hy0 hy1
    rw [← hL] at hpx hpy
    obtain ⟨kx, hkx⟩ : ∃ k, k = l ++ P.be 8 x.toNat ++ [7] := ⟨_, rfl⟩
    obtain ⟨ky, hky⟩ : ∃ k, k = l ++ P.be 8 y.toNat ++ [7] := ⟨_, rfl⟩
    rw [← hkx] at hpx
    rw [← hky] at hpy
    have hlx : l.length + 9 ≤ kx.length := by rw [hkx]; simp [P.be_length]
    have hlx2 : kx.length ≤ l.length + 9 := by rw [hkx]; simp [P.be_length]
    have htx : kx.take l.length = l := by rw [hkx]; simp
    have h7x : kx[l.length + 8]'(by omega) = 7 := by subst hkx; rw [List.getElem_append_right (by simp [P.be_length])]; simp [P.be_length]
    have e256 : ∀ z : Int, 0 ≤ z → z ≤ 4611686018427387904 → z.toNat < 256 ^ 8 := fun z _ _ => by omega
    have hless : Op.bytesLess kx ky = decide (x < y) := by
      rw [hkx, hky, less_snoc _ _ _ _ (by simp [P.be_length]), less_pre, less_irrefl, less_be 8 _ _ (e256 x hx0 hx1) (e256 y hy0 hy1), Bool.and_false, Bool.or_false, decide_eq_decide]
      omega
    have heq : (kx == ky) = decide (x = y) := by
      rw [Bool.eq_iff_iff]
      simp only [beq_iff_eq, decide_eq_true_eq]
      constructor
      · intro h
        rw [hkx, hky] at h
        have h2 := List.append_cancel_right h
        have h3 := be_inj 8 _ _ (e256 x hx0 hx1) (e256 y hy0 hy1) (List.append_cancel_left h2)
        omega
      · intro h
        rw [hkx, hky, h]
    obtain ⟨a3, cp3, hv3, hr3, _, _, _⟩ := hown3.form
    subst hv3
    have HR3 := Lib.hid hr3
    have HPX := Lib.hid hpx
    have HPY := Lib.hid hpy
    have HTX := Lib.hid htx
    have H7 := Lib.hid h7x
    have HLE := Lib.hid hless
    have HEQ := Lib.hid heq
    clear hown hown3 hg3 hat3 hr3 hL hpx hpy hkx hky htx h7x hless heq e256
    go_wp2_with fail
    refine (put_good _ _ _ L kx _ _ _ _ HR3.out HPX.out (by omega)).mono ?_
    rintro e w4 ⟨v4, rfl, hown4, hb4⟩
    have hb4' := below_then hb3' hb4 hb3'.size
    obtain ⟨g4, cp4, hv4, hg4B, hg4, hr4, hcap4⟩ := hown4.pos (by omega)
    subst hv4
    have HR4 := Lib.hid hr4
    clear hown4 hr4
    go_wp2_with fail
    refine (put_good _ _ _ L ky _ _ _ _ (HR3.out.below hb4) HPY.out (by omega)).mono ?_
    rintro e w5 ⟨v5, rfl, hown5, hb5⟩
    have hb5' := below_then hb4' hb5 hb4'.size
    obtain ⟨a5, cp5, hv5, hr5, _, _, _⟩ := hown5.form
    subst hv5
    have HR5 := Lib.hid hr5
    clear hown5 hr5
    go_wp2_with fail
    refine (same_refl _ _ _ _ _ l _ (by have h := ((HR4.out.below hb5).take l.length (by omega)); rw [HTX.out] at h; exact h) (HR.out.below hb5')).mono ?_
    rintro e w6 ⟨rfl, hb6⟩
    have hb6' := below_then hb5' hb6 hb5'.size
    obtain ⟨p4, ha4, hc4⟩ := ((HR4.out.below hb5).below hb6).at (l.length + 8) (by omega)
    cases ha4
    rw [H7.out] at hc4
    have hc5 : w6.cell? ⟨g4, l.length + 8, none⟩ = some (.int .u8 7) := by
      have e : ((⟨g4, 0, none⟩ : Addr).add (l.length + 8)) = ⟨g4, l.length + 8, none⟩ := by simp [Addr.add]
      rw [← e]
      exact hc4
    clear hc4
    have k4 := run_conv_str w6 _ _ cp4 _ ((HR4.out.below hb5).below hb6)
    have k5 := run_conv_str w6 _ _ cp5 _ (HR5.out.below hb6)
    go_wp2_with fail
    go_ret
    refine ⟨?_, hb6'⟩
    show Ending.returned (Value.bool ((kx == ky) == (x == y))) = _
    rw [HEQ.out]
    by_cases h : x = y <;> simp [h]
  · have hq : (((1000 < (l.length : Int) ∨ x < 0) ∨ y < 0) ∨ 4611686018427387904 < x) ∨ 4611686018427387904 < y := by omega
    clear hg
    go_enter Try.func6, Try.ntmps6
    go_wp2_with fail
    refine (awake1_any _).mono ?_
    rintro e w1 ⟨rfl, hb1⟩
    go_wp2_with fail
    all_goals
      go_ret
      exact ⟨rfl, hb1⟩

theorem put_known : P.put [0, 0, 0] 1 2 300 = some [0, 1, 44] := by decide
theorem put_wide : P.put [0] 0 1 256 = none := by decide
theorem get_short : P.get [1, 2, 3] 2 2 = (0, false) := by decide
theorem crc_known : P.crc [49, 50, 51, 52, 53, 54, 55, 56, 57] = 3421780262 := by decide +kernel

set_option maxHeartbeats 400000 in
theorem octetKnown_walk (w : World) :
    Calls Try.prog 7 #[] w fun e w' => e = .returned (.bool true) ∧ Below w.heap.size w w' := by
  have kc := fun (w : World) (C : Array Value) (n c : Nat) => Lib.run_convert_bytes_const (P := Try.prog) w 22 5 C n c Try.underlying22 Try.underlying5
  go_enter Try.func7, Try.ntmps7
  go_wp2_with fail
  refine (awake1_any _).mono ?_
  rintro e w1 ⟨rfl, hb1⟩
  go_wp2_with fail
  refine (get_any _ _ _ [1, 2, 3] _ _ _ (Rd_lit _ _ [1, 2, 3] (by simp [maxLen])) (by omega)).mono ?_
  rintro e w2 ⟨rfl, hb2⟩
  rw [get_short]
  have hb2' : Below w.heap.size w w2 := hb1.trans ((((Below.refl _ w1).alloc (Nat.le_refl _) _).trans (hb2.mono (by simp))).mono hb1.size)
  go_wp2_with fail
  refine (put_good _ _ _ [0, 0, 0] [0, 1, 44] _ _ _ _ (Rd_lit _ _ [0, 0, 0] (by simp [maxLen])) put_known (by simp)).mono ?_
  rintro e w3 ⟨v3, rfl, hown3, hb3⟩
  have hb3' : Below w.heap.size w w3 := hb2'.trans ((((Below.refl _ w2).alloc (Nat.le_refl _) _).trans (hb3.mono (by simp))).mono hb2'.size)
  obtain ⟨a3, cp3, hv3, hr3, _, _, _⟩ := hown3.form
  subst hv3
  have HR3 := Lib.hid hr3
  clear hown3 hr3
  go_wp2_with fail
  refine (put_bad _ _ _ [0] _ _ _ _ (Rd_lit _ _ [0] (by simp [maxLen])) put_wide (by omega)).mono ?_
  rintro e w4 ⟨rfl, hw⟩
  have hb4 : Below w3.heap.size w3 w4 := below_alloc1 (below_of_eq hw)
  have hb4' : Below w.heap.size w w4 := hb3'.trans (hb4.mono hb3'.size)
  clear hw
  go_wp2_with fail
  refine (same_refl _ _ _ _ _ [0, 1, 44] _ ((HR3.out.below hb4).below ((Below.refl _ _).alloc (Nat.le_refl _) _)) (Rd_lit _ _ [0, 1, 44] (by simp [maxLen]))).mono ?_
  rintro e w5 ⟨rfl, hb5⟩
  have hb5' : Below w.heap.size w w5 := hb4'.trans ((below_alloc1 hb5).mono hb4'.size)
  clear hb5 hb4 hb3 hb2
  go_wp2_with fail
  refine (crc_any _ _ _ [49, 50, 51, 52, 53, 54, 55, 56, 57] _ (Rd_lit _ _ [49, 50, 51, 52, 53, 54, 55, 56, 57] (by simp [maxLen]))).mono ?_
  rintro e w6 ⟨rfl, hw⟩
  have hb6' : Below w.heap.size w w6 := hb5'.trans ((below_alloc1 (below_of_eq hw)).mono hb5'.size)
  rw [crc_known]
  clear hw
  go_wp2
  go_ret
  exact ⟨rfl, hb6'⟩
end Go.Proofs.Ytjhiiikijpalhaa
