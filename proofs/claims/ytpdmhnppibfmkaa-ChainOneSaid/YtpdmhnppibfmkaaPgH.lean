/- Seal and Open, program and reference, each by one contract. -/
import Derived.Test.YtpdmhnppibfmkaaPgF
namespace Go.Proofs.Ytpdmhnppibfmkaa
set_option linter.unusedVariables false
set_option linter.unusedSimpArgs false
open Go.RowKit

theorem seal_fun (k l c : Int) (a : Option Addr) (n m : Nat) (b : List UInt8) (w : World) (hr : Rd w a n b) :
    Calls Try.prog 54 #[.agg #[.int .i64 k, .int .i64 l, .int .i64 c, .slice a n m]] w fun e w' =>
      ∃ v, e = .returned (.tuple #[v, .int .i64 (P.sealErr k l c b.length)]) ∧ OB w' w.heap.size v (P.sealB k l c b) ∧ Below w.heap.size w w' := by
  obtain rfl := hr.1
  have hm := hr.2.1
  unfold maxLen at hm
  unfold P.sealB
  by_cases h : P.sealErr k l c b.length = 0
  · rw [if_pos h, h]
    exact seal_ok k l c a _ m b w hr h
  · rw [if_neg h]
    exact (seal_bad k l c a _ m w (by omega) h).mono fun e w' ⟨he, hb⟩ => ⟨_, he, OB.nil _ _, hb⟩
theorem rseal_fun (k l c : Int) (a : Option Addr) (n m : Nat) (b : List UInt8) (w : World) (hr : Rd w a n b) :
    Calls Try.prog 56 #[.agg #[.int .i64 k, .int .i64 l, .int .i64 c, .slice a n m]] w fun e w' =>
      ∃ v, e = .returned (.tuple #[v, .int .i64 (P.sealErr k l c b.length)]) ∧ OB w' w.heap.size v (P.sealB k l c b) ∧ Below w.heap.size w w' := by
  obtain rfl := hr.1
  have hm := hr.2.1
  unfold maxLen at hm
  unfold P.sealB
  by_cases h : P.sealErr k l c b.length = 0
  · rw [if_pos h, h]
    exact rseal_ok k l c a _ m b w hr h
  · rw [if_neg h]
    exact (rseal_bad k l c a _ m w (by omega) h).mono fun e w' ⟨he, hb⟩ => ⟨_, he, OB.nil _ _, hb⟩
theorem open_post (l : List UInt8) (w w' : World) (e : Ending) (h : Below w.heap.size w w' ∧
      ((P.openErr l ≠ 0 ∧ e = .returned (.tuple #[zpage, .int .i64 (P.openErr l)])) ∨
       (P.openErr l = 0 ∧ ∃ v, e = .returned (.tuple #[.agg #[.int .i64 (P.openKind l : Nat), .int .i64 (P.openLevel l : Nat), .int .i64 (P.openCount l : Nat), v], .int .i64 0]) ∧ OB w' w.heap.size v (P.openBody l)))) :
    ∃ v, e = .returned (.tuple #[.agg #[.int .i64 (P.oK l), .int .i64 (P.oL l), .int .i64 (P.oC l), v], .int .i64 (P.openErr l)]) ∧ OB w' w.heap.size v (P.oB l) ∧ Below w.heap.size w w' := by
  obtain ⟨hb, ⟨h0, he⟩ | ⟨h0, v, he, ho⟩⟩ := h
  · refine ⟨_, ?_, OB.nil _ _ |> fun h => by rw [show P.oB l = [] by simp [P.oB, h0]]; exact h, hb⟩
    rw [he]
    simp [P.oK, P.oL, P.oC, h0, zpage]
  · refine ⟨v, ?_, by rw [show P.oB l = P.openBody l by simp [P.oB, h0]]; exact ho, hb⟩
    rw [he]
    simp [P.oK, P.oL, P.oC, h0]
theorem open_fun (a : Option Addr) (len cap : Nat) (l : List UInt8) (w : World) (hr : Rd w a len l) (hc : len ≤ cap) :
    Calls Try.prog 26 #[.slice a len cap] w fun e w' =>
      ∃ v, e = .returned (.tuple #[.agg #[.int .i64 (P.oK l), .int .i64 (P.oL l), .int .i64 (P.oC l), v], .int .i64 (P.openErr l)]) ∧ OB w' w.heap.size v (P.oB l) ∧ Below w.heap.size w w' :=
  (open_any a len cap l w hr hc).mono fun e w' h => open_post l w w' e h
theorem ropen_fun (a : Option Addr) (len cap : Nat) (l : List UInt8) (w : World) (hr : Rd w a len l) (hc : len ≤ cap) :
    Calls Try.prog 59 #[.slice a len cap] w fun e w' =>
      ∃ v, e = .returned (.tuple #[.agg #[.int .i64 (P.oK l), .int .i64 (P.oL l), .int .i64 (P.oC l), v], .int .i64 (P.openErr l)]) ∧ OB w' w.heap.size v (P.oB l) ∧ Below w.heap.size w w' :=
  (ropen_any a len cap l w hr hc).mono fun e w' h => open_post l w w' e h
end Go.Proofs.Ytpdmhnppibfmkaa
