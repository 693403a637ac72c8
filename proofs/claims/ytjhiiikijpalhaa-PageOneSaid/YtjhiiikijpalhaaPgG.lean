/- The walks of chapter 6's law: same, awake. -/
import Derived.Test.YtjhiiikijpalhaaPgF
import Derived.Test.YtjhiiikijpalhaaLawA
namespace Go.Proofs.Ytjhiiikijpalhaa
set_option linter.unusedVariables false
set_option linter.unusedSimpArgs false
open Go.RowKit

set_option maxHeartbeats 800000 in
theorem psame_any (k1 l1 c1 k2 l2 c2 : Int) (a1 a2 : Option Addr) (n1 m1 n2 m2 : Nat) (x y : List UInt8) (w : World) (h1 : Rd w a1 n1 x) (h2 : Rd w a2 n2 y) :
    Calls Try.prog 26 #[.agg #[.int .i64 k1, .int .i64 l1, .int .i64 c1, .slice a1 n1 m1], .agg #[.int .i64 k2, .int .i64 l2, .int .i64 c2, .slice a2 n2 m2]] w
      fun e w' => e = .returned (.bool (decide (k1 = k2 ∧ l1 = l2 ∧ c1 = c2 ∧ x = y))) ∧ Below w.heap.size w w' := by
  have HX := Lib.hid h1
  have HY := Lib.hid h2
  clear h1 h2
  by_cases ek : k1 = k2
  case neg =>
    have t1 : (k1 == k2) = false := by simpa using ek
    have hv : decide (k1 = k2 ∧ l1 = l2 ∧ c1 = c2 ∧ x = y) = false := by simp [ek]
    rw [hv]
    clear ek hv
    go_enter Try.func26, Try.ntmps26
    go_wp2
    go_ret
    exact ⟨rfl, ((Below.refl _ w).alloc (Nat.le_refl _) _).alloc (by simp) _⟩
  case pos =>
    subst ek
    by_cases el : l1 = l2
    case neg =>
      have t1 : (l1 == l2) = false := by simpa using el
      have hv : decide (k1 = k1 ∧ l1 = l2 ∧ c1 = c2 ∧ x = y) = false := by simp [el]
      rw [hv]
      clear el hv
      go_enter Try.func26, Try.ntmps26
      go_wp2
      go_ret
      exact ⟨rfl, ((Below.refl _ w).alloc (Nat.le_refl _) _).alloc (by simp) _⟩
    case pos =>
      subst el
      by_cases ec : c1 = c2
      case neg =>
        have t1 : (c1 == c2) = false := by simpa using ec
        have hv : decide (k1 = k1 ∧ l1 = l1 ∧ c1 = c2 ∧ x = y) = false := by simp [ec]
        rw [hv]
        clear ec hv
        go_enter Try.func26, Try.ntmps26
        go_wp2
        go_ret
        exact ⟨rfl, ((Below.refl _ w).alloc (Nat.le_refl _) _).alloc (by simp) _⟩
      case pos =>
        subst ec
        have hv : decide (k1 = k1 ∧ l1 = l1 ∧ c1 = c1 ∧ x = y) = decide (x = y) := by simp
        rw [hv]
        clear hv
        go_enter Try.func26, Try.ntmps26
        go_wp2_with fail
        have hb0 : Below w.heap.size w ((w.alloc (.cells #[.int .i64 k1, .int .i64 l1, .int .i64 c1, .slice a1 n1 m1] 40)).alloc (.cells #[.int .i64 k1, .int .i64 l1, .int .i64 c1, .slice a2 n2 m2] 40)) :=
          ((Below.refl _ w).alloc (Nat.le_refl _) _).alloc (by simp) _
        refine (same_b _ _ _ _ _ _ x y _ (HX.out.below hb0) (HY.out.below hb0)).mono ?_
        rintro e w1 ⟨rfl, hb1⟩
        go_wp2
        go_ret
        exact ⟨by first | rfl | (simp; done), hb0.trans (hb1.mono hb0.size)⟩

theorem awake6_open : P.openErr (P.page 4 0 1 [7]) = 0 ∧ P.openKind (P.page 4 0 1 [7]) = 4 ∧ P.openCount (P.page 4 0 1 [7]) = 1 ∧ (P.openBody (P.page 4 0 1 [7])).length = 248 ∧
    (P.openBody (P.page 4 0 1 [7])).getD 0 0 = 7 := by decide +kernel

set_option maxHeartbeats 800000 in
theorem awake6_any (w : World) : Calls Try.prog 21 #[] w fun e w' => e = .returned (.bool true) ∧ Below w.heap.size w w' := by
  go_enter Try.func21, Try.ntmps21
  go_wp2_with fail
  refine (seal_ok 4 0 1 _ _ _ [7] _ (Rd_lit _ _ [7] (by simp [maxLen])) (by decide)).mono ?_
  rintro e w1 ⟨v1, rfl, hown1, hb1⟩
  have hb1' := below_alloc1 hb1
  obtain ⟨K, hK⟩ : ∃ K, K = P.page 4 0 1 [7] := ⟨_, rfl⟩
  obtain ⟨o1, o2, o3, o4, o5⟩ := awake6_open
  rw [← hK] at o1 o2 o3 o4 o5
  have hKl : K.length = 256 := by rw [hK]; exact P.page_length _ _ _ _ (by simp)
  have ho : OB w1 w.heap.size v1 K := by rw [hK]; exact hown1.mono (by simp)
  obtain ⟨a1, p1, hv1, hr1, hc1, -, -⟩ := ho.form
  rw [hKl] at hv1 hr1 hc1
  subst hv1
  have HR1 := Lib.hid hr1
  have O1 := Lib.hid o1
  have O2 := Lib.hid o2
  have O3 := Lib.hid o3
  have O4 := Lib.hid o4
  have O5 := Lib.hid o5
  clear hown1 ho hr1 hK hKl o1 o2 o3 o4 o5
  go_wp2_with fail
  refine (open_any _ _ _ K _ HR1.out hc1).mono ?_
  rintro e w2 ⟨hb2, ⟨h, -⟩ | ⟨-, v2, rfl, hown2⟩⟩
  · exact absurd O1.out h
  rw [O2.out, O3.out]
  have hb2' := below_then hb1' hb2 hb1'.size
  obtain ⟨g, cp, hv2, hgB, hgl, hr2, -⟩ := hown2.pos (by rw [O4.out]; omega)
  rw [O4.out] at hv2
  subst hv2
  have k0 : w2.cell? ⟨g, 0, none⟩ = some (.int .u8 7) := by
    obtain ⟨q, e, hq⟩ := hr2.at 0 (by rw [O4.out]; omega)
    cases e
    have h5 := O5.out
    rw [List.getD_eq_getElem?_getD, List.getElem?_eq_getElem (by rw [O4.out]; omega)] at h5
    rw [show (P.openBody K)[0]'(by rw [O4.out]; omega) = 7 from h5] at hq
    exact hq
  clear hown2 hr2
  go_wp2
  go_ret
  exact ⟨rfl, hb2'.alloc hb2'.size _⟩
end Go.Proofs.Ytjhiiikijpalhaa
