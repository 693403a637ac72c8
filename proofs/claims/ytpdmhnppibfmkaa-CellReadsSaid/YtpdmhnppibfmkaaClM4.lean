/- The walks of chapter 8: the reference's Pieces, Kids. Printed by gen_clm.py. -/
import Derived.Test.YtpdmhnppibfmkaaClM
import Derived.Test.YtpdmhnppibfmkaaClM2
import Derived.Test.YtpdmhnppibfmkaaClM3
namespace Go.Proofs.Ytpdmhnppibfmkaa
set_option linter.unusedVariables false
set_option linter.unusedSimpArgs false
open Go.RowKit

theorem rpieces_fun (a : Option Addr) (len cap : Nat) (l : List UInt8) (w : World) (hr : Rd w a len l) (hc : len ≤ cap) : Calls Try.prog 44 #[.slice a len cap] w fun e w' => ∃ v, e = .returned (.tuple #[v, .int .i64 (P.pcErr l)]) ∧ OV w' w.heap.size 75 4 v (P.pcL l).length (qCs (P.pcL l)) ∧ Below w.heap.size w w' := by
  by_cases he : P.openErr l = 0
  case neg =>
    have e1 : P.pcErr l = P.openErr l := by unfold P.pcErr; rw [if_pos he]
    have e2 : P.pcL l = [] := by unfold P.pcL; rw [if_neg (by omega)]
    
    rw [e1, e2]
    exact (rpieces_open a len cap l w hr hc he).mono fun e w' ⟨h1, h2⟩ => ⟨_, h1, OV.nil _ _ _ _, h2⟩
  have bad : ¬ P.goodP l → P.pcErr l = 4 ∧ P.pcL l = []  := fun h => by
    have e1 : P.pcErr l = 4 := by unfold P.pcErr; rw [if_neg (by simpa using he), if_neg h]
    have e2 : P.pcL l = [] := by unfold P.pcL; rw [if_neg (by omega)]
    exact ⟨e1, e2⟩
  by_cases hf : (P.openKind l = 3 ∧ P.openLevel l = 0 ∧ 1 ≤ P.openCount l ∧ P.openCount l ≤ 20)
  case neg =>
    obtain ⟨e1, e2⟩ := bad (fun h => hf ⟨h.1, h.2.1, h.2.2.1, h.2.2.2.1⟩)
    rw [e1, e2]
    exact (rpieces_form a len cap l w hr hc he hf).mono fun e w' ⟨h1, h2⟩ => ⟨_, h1, OV.nil _ _ _ _, h2⟩
  rcases hz : P.zeros ((P.openBody l).drop (12 * P.openCount l)) with _ | _
  · obtain ⟨e1, e2⟩ := bad (fun g => by have := g.2.2.2.2.1; rw [hz] at this; cases this)
    rw [e1, e2]
    exact (rpieces_tail a len cap l w hr hc he hf.1 hf.2.1 hf.2.2.1 hf.2.2.2 hz).mono fun e w' ⟨h1, h2⟩ => ⟨_, h1, OV.nil _ _ _ _, h2⟩
  · exact rpieces_loop a len cap l w hr hc he hf.1 hf.2.1 hf.2.2.1 hf.2.2.2 hz
theorem rkids_fun (a : Option Addr) (len cap : Nat) (l : List UInt8) (w : World) (hr : Rd w a len l) (hc : len ≤ cap) : Calls Try.prog 46 #[.slice a len cap] w fun e w' => ∃ v, e = .returned (.tuple #[.int .i64 (P.kdV l), v, .int .i64 (P.kdErr l)]) ∧ OV w' w.heap.size 121 4 v (P.kdL l).length (qCs (P.kdL l)) ∧ Below w.heap.size w w' := by
  by_cases he : P.openErr l = 0
  case neg =>
    have e1 : P.kdErr l = P.openErr l := by unfold P.kdErr; rw [if_pos he]
    have e2 : P.kdL l = [] := by unfold P.kdL; rw [if_neg (by omega)]
    have e3 : P.kdV l = 0 := by unfold P.kdV; rw [if_neg (by omega)]
    rw [e1, e2, e3]
    exact (rkids_open a len cap l w hr hc he).mono fun e w' ⟨h1, h2⟩ => ⟨_, h1, OV.nil _ _ _ _, h2⟩
  have bad : ¬ P.goodK l → P.kdErr l = 4 ∧ P.kdL l = [] ∧ P.kdV l = 0 := fun h => by
    have e1 : P.kdErr l = 4 := by unfold P.kdErr; rw [if_neg (by simpa using he), if_neg h]
    have e2 : P.kdL l = [] := by unfold P.kdL; rw [if_neg (by omega)]
    exact ⟨e1, e2, by unfold P.kdV; rw [if_neg (by omega)]⟩
  by_cases hf : (P.openKind l = 2 ∧ (1 ≤ P.openLevel l ∧ P.openLevel l ≤ 32) ∧ 1 ≤ P.openCount l ∧ P.openCount l ≤ 12)
  case neg =>
    obtain ⟨e1, e2, e3⟩ := bad (fun h => hf ⟨h.1, ⟨h.2.1, h.2.2.1⟩, h.2.2.2.1, h.2.2.2.2.1⟩)
    rw [e1, e2, e3]
    exact (rkids_form a len cap l w hr hc he hf).mono fun e w' ⟨h1, h2⟩ => ⟨_, h1, OV.nil _ _ _ _, h2⟩
  rcases hz : P.zeros ((P.openBody l).drop (20 * P.openCount l)) with _ | _
  · obtain ⟨e1, e2, e3⟩ := bad (fun g => by have := g.2.2.2.2.2.1; rw [hz] at this; cases this)
    rw [e1, e2, e3]
    exact (rkids_tail a len cap l w hr hc he hf.1 hf.2.1.1 hf.2.1.2 hf.2.2.1 hf.2.2.2 hz).mono fun e w' ⟨h1, h2⟩ => ⟨_, h1, OV.nil _ _ _ _, h2⟩
  · exact rkids_loop a len cap l w hr hc he hf.1 hf.2.1.1 hf.2.1.2 hf.2.2.1 hf.2.2.2 hz
end Go.Proofs.Ytpdmhnppibfmkaa
