/- The walk of the law ChainCuts. -/
import Derived.Test.YtpdmhnppibfmkaaChK
import Derived.Test.YtpdmhnppibfmkaaChI2
namespace Go.Proofs.Ytpdmhnppibfmkaa
set_option linter.unusedVariables false
set_option linter.unusedSimpArgs false
open Go.RowKit

set_option maxRecDepth 100000 in
set_option maxHeartbeats 1600000 in
theorem chainCuts_walk (a : Option Addr) (n ca : Nat) (b : List UInt8) (p : Option Addr) (m d : Nat) (l : List Int) (k : Int) (w : World) (hr : Rd w a n b) (hc : n ≤ ca) (hl : RI w p m l) (hd : m ≤ d) (hk : -9223372036854775808 ≤ k ∧ k ≤ 9223372036854775807) :
    Calls Try.prog 9 #[.slice a n ca, .slice p m d, .int .i64 k] w fun e w' => e = .returned (.bool true) ∧ Below w.heap.size w w' := by
  have HR := Lib.hid hr
  have HL := Lib.hid hl
  have HC := Lib.hid (fun w (h : Rd w a n b) (hl : RI w p m l) => cut_fun a n ca b p m d l w h hc hl)
  have HD := Lib.hid (fun w (h : Rd w a n b) (hl : RI w p m l) => rcut_fun a n ca b p m d l w h hc hl)
  have HN := Lib.hid (fun w => need_any k w hk)
  have HM := Lib.hid (fun w => rneed_any k w hk)
  generalize P.cutErr b l = E at *
  generalize P.cutL b l = L at *
  generalize P.need k = K at *
  clear hr hl
  by_cases hg : n ≤ 5000 ∧ m ≤ 100
  case neg =>
    go_enter Try.func9, Try.ntmps9
    go_wp2_with fail
    refine (awake11_any _).mono ?_
    rintro e w1 ⟨rfl, hb⟩
    by_cases h1 : 5000 < (n : Int)
    · go_wp2
      go_ret
      exact ⟨rfl, hb⟩
    · have h2 : 100 < (m : Int) := by omega
      go_wp2
      go_ret
      exact ⟨rfl, hb⟩
  case pos =>
    have c2 : decide (5000 < (n : Int)) = false := decide_eq_false (by omega)
    have c3 : decide (100 < (m : Int)) = false := decide_eq_false (by omega)
    have q1 : (E == E) = true := by simp
    have q2 : (K == K) = true := by simp
    clear hg
    go_enter Try.func9, Try.ntmps9
    go_wp2_with fail
    refine (awake11_any _).mono ?_
    rintro e w1 ⟨rfl, hb⟩
    go_wp2_with fail
    refine (HC.out _ (HR.out.below hb) (HL.out.below hb)).mono ?_
    rintro e w2 ⟨v2, rfl, ho2, hb2⟩
    have hbb2 := below_then hb hb2 hb.size
    obtain ⟨a2, c2, hv2, hr2, -⟩ := ho2.form
    subst hv2
    have R2 := Lib.hid hr2
    clear ho2 hr2
    go_wp2_with fail
    refine (HD.out _ (HR.out.below hbb2) (HL.out.below hbb2)).mono ?_
    rintro e w3 ⟨v3, rfl, ho3, hb3⟩
    have hbb3 := below_then hbb2 hb3 hbb2.size
    obtain ⟨a3, c3, hv3, hr3, -⟩ := ho3.form
    subst hv3
    have R3 := Lib.hid hr3
    clear ho3 hr3
    have hpg := pages_any a2 a3 L.length L.length c2 c3 L L w3 (R2.out.below hb3) R3.out
    rw [decide_eq_true rfl] at hpg
    have HPG := Lib.hid hpg
    clear hpg
    go_wp2_with fail
    refine HPG.out.mono ?_
    rintro e w4 ⟨rfl, hb4⟩
    go_wp2_with fail
    refine (HN.out _).mono ?_
    rintro e w5 ⟨rfl, rfl⟩
    go_wp2_with fail
    refine (HM.out _).mono ?_
    rintro e w6 ⟨rfl, rfl⟩
    go_wp2
    go_ret
    exact ⟨rfl, below_then hbb3 hb4 hbb3.size⟩
end Go.Proofs.Ytpdmhnppibfmkaa
