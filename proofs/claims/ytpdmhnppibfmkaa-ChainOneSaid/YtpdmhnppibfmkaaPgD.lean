/- The walks of the reference's put and get. -/
import Derived.Test.YtpdmhnppibfmkaaPgC
namespace Go.Proofs.Ytpdmhnppibfmkaa
set_option linter.unusedVariables false
set_option linter.unusedSimpArgs false
open Go.RowKit

theorem put_zeros (n x : Int) (h1 : 1 ≤ n) (h2 : n ≤ 8) (h3 : 0 ≤ x) (h4 : x ≤ 4611686018427387904) (h5 : x < 256 ^ n.toNat) :
    P.put (List.replicate n.toNat 0) 0 n x = some (P.be n.toNat x.toNat) := by
  have hb : P.lies (List.replicate n.toNat (0 : UInt8)).length 0 n = true := by unfold P.lies; apply decide_eq_true; simp; omega
  unfold P.put
  rw [if_pos ⟨hb, h3, h4, h5⟩]
  simp

theorem OB_made {w w' : World} {B g n : Nat} (h : w'.ownsRow B 5 1 (.slice (some ⟨g, 0, none⟩) n n) n (madeCells #[Value.int .u8 0] n).toList) :
    OB w' B (.slice (some ⟨g, 0, none⟩) n n) (List.replicate n 0) := by
  unfold OB
  have e : (madeCells #[Value.int .u8 0] n).toList = bvs (List.replicate n 0) := by
    rw [toList_madeCells_one]
    simp [bvs, bv]
  rw [e] at h
  simpa using h

set_option maxRecDepth 100000 in
set_option maxHeartbeats 400000 in
theorem refput_any (n x : Int) (w : World) (h1 : 1 ≤ n) (h2 : n ≤ 8) (h3 : 0 ≤ x) (h4 : x ≤ 4611686018427387904) (h5 : x < 256 ^ n.toNat) :
    Calls Try.prog 55 #[.int .i64 n, .int .i64 x] w fun e w' => ∃ v, e = .returned v ∧ OB w' w.heap.size v (P.be n.toNat x.toNat) ∧ Below w.heap.size w w' := by
  have HP := Lib.hid (put_zeros n x h1 h2 h3 h4 h5)
  obtain ⟨i, hi, hz0, hz1, hz2⟩ := info_parts u8_info
  obtain ⟨n, rfl⟩ := Int.eq_ofNat_of_zero_le (Int.le_trans (by omega) h1)
  rw [Int.toNat_natCast] at HP ⊢
  clear h5
  go_enter Try.func55, Try.ntmps55
  go_wp2_with (at_make; refine wpList_make_full _ rfl _ _ 24 rfl w.heap.size 5 i _ 1 Try.underlying24 hi hz0 hz1 _ _ _ _ n rfl rfl rfl rfl ?c1 ?c2 (Nat.le_refl _) ?_)
  case c1 => rw [hz2]; omega
  case c2 => unfold maxLen; omega
  intro w1 hown1 hg1
  have hb1 : Below w.heap.size w w1 := (Below.refl _ w).grown hg1 (Nat.le_refl _) (by simp)
  have ho := OB_made (w := w) hown1
  obtain ⟨a1, c1, hv, hr1, -, -, -⟩ := ho.form
  simp only [Value.slice.injEq] at hv
  obtain ⟨e1, -, e3⟩ := hv
  subst e1
  subst e3
  rw [List.length_replicate] at hr1
  have HR := Lib.hid hr1
  clear hown1 hg1 ho hr1
  go_wp2_with fail
  refine (rput_good _ _ _ (List.replicate n 0) _ _ _ _ _ HR.out HP.out (by omega)).mono ?_
  rintro e w2 ⟨v, rfl, hown, hb2⟩
  obtain ⟨a2, c2, hv, -, -, -, -⟩ := hown.form
  subst hv
  have HO := Lib.hid (hown.mono hb1.size)
  clear hown
  go_wp2
  go_ret
  exact ⟨_, rfl, HO.out, below_then hb1 hb2 hb1.size⟩

set_option maxRecDepth 100000 in
set_option maxHeartbeats 400000 in
theorem refget_any (a : Option Addr) (len cap : Nat) (l : List UInt8) (at_ n : Int) (w : World) (hr : Rd w a len l) (hat : -9223372036854775808 ≤ at_ ∧ at_ ≤ 9223372036854775807) :
    Calls Try.prog 60 #[.slice a len cap, .int .i64 at_, .int .i64 n] w fun e w' => e = .returned (.int .i64 (P.get l at_ n).1) ∧ w = w' := by
  have HR := Lib.hid hr
  clear hr
  go_enter Try.func60, Try.ntmps60
  go_wp2_with fail
  refine (rget_any _ _ _ l _ _ _ HR.out hat).mono ?_
  rintro e w1 ⟨rfl, rfl⟩
  go_wp2
  go_ret
  exact ⟨rfl, rfl⟩
end Go.Proofs.Ytpdmhnppibfmkaa
