/- The walk of chapter 21: Set. Printed by gen_rec.py. -/
import Derived.Test.YtleicgigkbfnbaaReB
namespace Go.Proofs.Ytleicgigkbfnbaa
set_option linter.unusedVariables false
set_option linter.unusedSimpArgs false
open Go.RowKit
variable {A : Nat → Prop}

def nl (L : Bool) (v : List UInt8) : List UInt8 := if L = true ∧ v ≠ [] ∧ v.getLast? ≠ some 10 then v ++ [10] else v
/-- What Set makes of the registers. -/
def setM (M : RM) (k : Nat) (ln : Bool) (t : List UInt8) : RM :=
  if ownN k = true then upd M k (some (ln, t)) else if 65 ≤ k ∧ k ≤ 90 then upd M (sm k) (some (ln || ((M (sm k)).getD (false, [])).1, nl (ln || ((M (sm k)).getD (false, [])).1) ((M (sm k)).getD (false, [])).2 ++ t)) else M
def setOk (k : Nat) : Bool := ownN k || decide (65 ≤ k ∧ k ≤ 90)
theorem RegIs.chg0 {w : World} {p b : Nat} : Chg (fun j => j = p ∨ j = b) w w := Chg.refl _ _
theorem own_more {k : Nat} (h : 65 ≤ k ∧ k ≤ 90) : ownN k = false := by unfold ownN; exact decide_eq_false (by omega)
set_option maxRecDepth 100000 in
set_option maxHeartbeats 1600000 in
theorem set_own (p b c nm k : Nat) (ln : Bool) (a : Option Addr) (m cp : Nat) (t : List UInt8) (M : RM) (w : World) (h : RegIs A w p b c M nm) (hc : c ≤ 1000000) (hk : k < 256) (hr : Rd w a m t) (hm : m ≤ cp) (hm2 : m ≤ 1048576) (ho : ownN k = true) : Calls Try.prog 13 #[.pointer (some ⟨p, 0, none⟩), .int .u8 k, .bool ln, .slice a m cp] w fun e w' => e = .returned (.bool (setOk k)) ∧ RegIs A w' p b (c + 1) (setM M k ln t) nm ∧ Chg (fun j => j = p ∨ j = b) w w' := by
  have e1 : setM M k ln t = upd M k (some (ln, t)) := by unfold setM; rw [if_pos ho]
  have e2 : setOk k = true := by unfold setOk; rw [ho]; rfl
  rw [e1, e2]
  have HMA := Lib.hid (made_any p b c nm M w h)
  have HOW := Lib.hid (own_any k w)
  rw [ho] at HOW
  have HPU := Lib.hid (put_any p b c nm k ln a m cp t M w h hc hk hr hm2)
  clear h hr ho e1 e2
  go_enter Try.func13, Try.ntmps13
  go_wp2_with fail
  refine HMA.out.mono ?_
  rintro e w1 ⟨rfl, rfl⟩
  go_wp2_with fail
  refine HOW.out.mono ?_
  rintro e w2 ⟨rfl, rfl⟩
  go_wp2_with fail
  refine HPU.out.mono ?_
  rintro e w3 ⟨⟨v, rfl⟩, hr3, hc3⟩
  go_wp2
  go_ret
  exact ⟨rfl, hr3, hc3⟩
set_option maxRecDepth 100000 in
set_option maxHeartbeats 1600000 in
theorem set_bad (p b c nm k : Nat) (ln : Bool) (a : Option Addr) (m cp : Nat) (t : List UInt8) (M : RM) (w : World) (h : RegIs A w p b c M nm) (hc : c ≤ 1000000) (hk : k < 256) (hr : Rd w a m t) (hm : m ≤ cp) (hm2 : m ≤ 1048576) (ho : ownN k = false) (hn : ¬ (65 ≤ k ∧ k ≤ 90)) : Calls Try.prog 13 #[.pointer (some ⟨p, 0, none⟩), .int .u8 k, .bool ln, .slice a m cp] w fun e w' => e = .returned (.bool (setOk k)) ∧ RegIs A w' p b (c + 1) (setM M k ln t) nm ∧ Chg (fun j => j = p ∨ j = b) w w' := by
  have e1 : setM M k ln t = M := by unfold setM; rw [if_neg (by rw [ho]; simp), if_neg hn]
  have e2 : setOk k = false := by unfold setOk; rw [ho, decide_eq_false hn]; rfl
  rw [e1, e2]
  have HMA := Lib.hid (made_any p b c nm M w h)
  have HOW := Lib.hid (own_any k w)
  rw [ho] at HOW
  have HMO := Lib.hid (more_any k w)
  rw [decide_eq_false hn] at HMO
  have HH := Lib.hid h
  clear h hr ho e1 e2 hn
  go_enter Try.func13, Try.ntmps13
  go_wp2_with fail
  refine HMA.out.mono ?_
  rintro e w1 ⟨rfl, rfl⟩
  go_wp2_with fail
  refine HOW.out.mono ?_
  rintro e w2 ⟨rfl, rfl⟩
  go_wp2_with fail
  refine HMO.out.mono ?_
  rintro e w3 ⟨rfl, rfl⟩
  go_wp2
  go_ret
  exact ⟨rfl, HH.out.mono (by omega), RegIs.chg0⟩
/-- What the register held. -/
theorem RegIs.old {w : World} {p b c nm : Nat} {M : RM} (h : RegIs A w p b c M nm) (k : Nat) (hk : k < 256) : ∃ V n vl va vm vc vt, Ms w b n V ∧ n ≤ c ∧ (V k).getD zval = .agg #[.bool vl, .slice va vm vc] ∧ (V k).isSome = (M k).isSome ∧ (M k).getD (false, []) = (vl, vt) ∧ Rd w va vm vt ∧ vm ≤ vc ∧ vm ≤ 1048576 ∧ (∀ q, va = some q → q.block ≠ p) := by
  obtain ⟨h1, h2, h3, V, n, h4, h5, h6⟩ := h
  have hh := h6 k hk
  rcases hM : M k with _ | ⟨ln, t⟩
  · rw [hM] at hh
    have hV : V k = none := hh
    refine ⟨V, n, false, none, 0, 0, [], h4, h5, by rw [hV]; rfl, by rw [hV]; rfl, rfl, Rd.nil _ _, Nat.le_refl _, by omega, fun q hq => by cases hq⟩
  · rw [hM] at hh
    obtain ⟨a, m, cp, g1, g2, g3, g4, g5⟩ := hh
    exact ⟨V, n, ln, a, m, cp, t, h4, h5, by rw [g1]; rfl, by rw [g1]; rfl, rfl, g2, g3, g4, fun q hq e => (g5 q hq).1 (by rw [e]; exact h2.2.1)⟩
end Go.Proofs.Ytleicgigkbfnbaa
