/- The walks of chapter 21: Yank, Get. -/
import Derived.Test.YtleicgigkbfnbaaReD
namespace Go.Proofs.Ytleicgigkbfnbaa
set_option linter.unusedVariables false
set_option linter.unusedSimpArgs false
open Go.RowKit
variable {A : Nat → Prop}

def yk (k : Nat) : Nat := if k = 0 ∨ k = 34 then 48 else k
set_option maxRecDepth 100000 in
set_option maxHeartbeats 1600000 in
theorem yank_any (p b c nm k : Nat) (ln : Bool) (a : Option Addr) (m cp : Nat) (t : List UInt8) (M : RM) (w : World) (h : RegIs A w p b c M nm) (hc : c ≤ 1000000) (hk : k < 256) (hr : Rd w a m t) (hm : m ≤ cp) (hm2 : m ≤ 1048576)
    (hlen : 65 ≤ k ∧ k ≤ 90 → ((M (sm k)).getD (false, [])).2.length + 1 + t.length ≤ 1048576) :
    Calls Try.prog 10 #[.pointer (some ⟨p, 0, none⟩), .int .u8 k, .bool ln, .slice a m cp] w fun e w' => e = .returned (.bool (setOk (yk k))) ∧ RegIs A w' p b (c + 1) (setM M (yk k) ln t) (if setOk (yk k) = true then sm (yk k) else nm) ∧ Chg (fun j => j = p ∨ j = b) w w' := by
  have HPL := Lib.hid (plain_any k w)
  obtain ⟨K, hK⟩ : ∃ K, K = yk k := ⟨_, rfl⟩
  have hK2 : K < 256 := by rw [hK]; unfold yk; split <;> omega
  have hset := set_any p b c nm K ln a m cp t M w h hc hK2 hr hm hm2 (fun hh => by
    rw [hK] at hh ⊢
    unfold yk at hh ⊢
    split at hh
    · omega
    · rename_i hn
      rw [if_neg hn]
      exact hlen hh)
  have HSET := Lib.hid hset
  have HSM := Lib.hid (fun w => small_any K w hK2)
  rw [← hK]
  unfold yk at hK
  generalize setOk K = ok at *
  generalize setM M K ln t = M' at *
  by_cases hp : k = 0 ∨ k = 34
  all_goals
    first
      | (rw [if_pos hp] at hK; subst hK; rw [decide_eq_true hp] at HPL)
      | (rw [if_neg hp] at hK; subst hK; rw [decide_eq_false hp] at HPL)
    rcases ok with _ | _
    all_goals
      clear h hr hset hp
      go_enter Try.func10, Try.ntmps10
      go_wp2_with fail
      refine HPL.out.mono ?_
      rintro e w1 ⟨rfl, rfl⟩
      go_wp2_with fail
      refine HSET.out.mono ?_
      rintro e w2 ⟨rfl, hr2, hc2⟩
      have gp := cell_blk hr2.1
      have fp := free_blk hr2.1
      have HR2 := Lib.hid hr2
      clear hr2
      go_wp2_with (go_at_call 25; refine (HSM.out _).mono ?_; rintro e ws ⟨rfl, rfl⟩)
      go_ret
      first
        | exact ⟨rfl, HR2.out, hc2⟩
        | exact ⟨rfl, HR2.out.name _ (sm_lt hK2), hc2.setCell _ _ (.inr (.inl rfl))⟩
end Go.Proofs.Ytleicgigkbfnbaa
