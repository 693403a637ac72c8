/- The walk of chapter 11: the reference's Cut, all ways. -/
import Derived.Test.YtpdmhnppibfmkaaChI
namespace Go.Proofs.Ytpdmhnppibfmkaa
open Go.RowKit
theorem rcut_fun (a : Option Addr) (len cap : Nat) (b : List UInt8) (p : Option Addr) (m d : Nat) (l : List Int) (w : World) (hr : Rd w a len b) (hc : len ≤ cap) (hl : RI w p m l) :
    Calls Try.prog 37 #[.slice a len cap, .slice p m d] w fun e w' => ∃ v, e = .returned (.tuple #[v, .int .i64 (P.cutErr b l)]) ∧ OL w' w.heap.size v (P.cutL b l) ∧ Below w.heap.size w w' := by
  rcases hf : P.fits b l with _ | _
  · have e1 : P.cutErr b l = 1 := by unfold P.cutErr; rw [hf]; rfl
    have e2 : P.cutL b l = [] := by unfold P.cutL; rw [if_neg (by omega)]
    rw [e1, e2]
    exact (rcut_bad a len cap b p m d l w hr hl hf).mono fun e w' ⟨h1, h2⟩ => ⟨_, h1, OL.nil _ _, h2⟩
  · exact rcut_fit a len cap b p m d l w hr hc hl hf
end Go.Proofs.Ytpdmhnppibfmkaa
