/- The walks of chapter 21: Set, Yank, Get. -/
import Derived.Test.YtleicgigkbfnbaaReC1
import Derived.Test.YtleicgigkbfnbaaReC2
import Derived.Test.YtleicgigkbfnbaaReC3
namespace Go.Proofs.Ytleicgigkbfnbaa
set_option linter.unusedVariables false
set_option linter.unusedSimpArgs false
open Go.RowKit
variable {A : Nat → Prop}

theorem set_any (p b c nm k : Nat) (ln : Bool) (a : Option Addr) (m cp : Nat) (t : List UInt8) (M : RM) (w : World) (h : RegIs A w p b c M nm) (hc : c ≤ 1000000) (hk : k < 256) (hr : Rd w a m t) (hm : m ≤ cp) (hm2 : m ≤ 1048576)
    (hlen : 65 ≤ k ∧ k ≤ 90 → ((M (sm k)).getD (false, [])).2.length + 1 + t.length ≤ 1048576) :
    Calls Try.prog 13 #[.pointer (some ⟨p, 0, none⟩), .int .u8 k, .bool ln, .slice a m cp] w fun e w' => e = .returned (.bool (setOk k)) ∧ RegIs A w' p b (c + 1) (setM M k ln t) nm ∧ Chg (fun j => j = p ∨ j = b) w w' := by
  rcases ho : ownN k with _ | _
  case true => exact set_own p b c nm k ln a m cp t M w h hc hk hr hm hm2 ho
  by_cases hmo : 65 ≤ k ∧ k ≤ 90
  case neg => exact set_bad p b c nm k ln a m cp t M w h hc hk hr hm hm2 ho hmo
  have hl := hlen hmo
  obtain ⟨⟨vl, vt⟩, hold⟩ : ∃ x, (M (sm k)).getD (false, []) = x := ⟨_, rfl⟩
  have e1 : setM M k ln t = upd M (sm k) (some (ln || vl, nl (ln || vl) vt ++ t)) := by
    unfold setM
    rw [if_neg (by rw [ho]; simp), if_pos hmo, hold]
  have e2 : setOk k = true := by unfold setOk; rw [decide_eq_true hmo, Bool.or_true]
  rw [e1, e2]
  rw [hold] at hl
  by_cases hv : vt = []
  · rcases ln with _ | _ <;> rcases vl with _ | _
    · exact set_more_ffx p b c nm k a m cp t M w h hc hk hr hm hm2 hmo vt hold hl
    · exact set_more_fte p b c nm k a m cp t M w h hc hk hr hm hm2 hmo vt hold hl hv
    · exact set_more_tfe p b c nm k a m cp t M w h hc hk hr hm hm2 hmo vt hold hl hv
    · exact set_more_tte p b c nm k a m cp t M w h hc hk hr hm hm2 hmo vt hold hl hv
  · by_cases hg : vt.getLast? = some 10
    · rcases ln with _ | _ <;> rcases vl with _ | _
      · exact set_more_ffx p b c nm k a m cp t M w h hc hk hr hm hm2 hmo vt hold hl
      · exact set_more_ftt p b c nm k a m cp t M w h hc hk hr hm hm2 hmo vt hold hl hv hg
      · exact set_more_tft p b c nm k a m cp t M w h hc hk hr hm hm2 hmo vt hold hl hv hg
      · exact set_more_ttt p b c nm k a m cp t M w h hc hk hr hm hm2 hmo vt hold hl hv hg
    · rcases ln with _ | _ <;> rcases vl with _ | _
      · exact set_more_ffx p b c nm k a m cp t M w h hc hk hr hm hm2 hmo vt hold hl
      · exact set_more_fto p b c nm k a m cp t M w h hc hk hr hm hm2 hmo vt hold hl hv hg
      · exact set_more_tfo p b c nm k a m cp t M w h hc hk hr hm hm2 hmo vt hold hl hv hg
      · exact set_more_tto p b c nm k a m cp t M w h hc hk hr hm hm2 hmo vt hold hl hv hg
end Go.Proofs.Ytleicgigkbfnbaa
