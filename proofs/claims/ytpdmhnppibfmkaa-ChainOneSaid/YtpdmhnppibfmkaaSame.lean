/- The reference's Same, with 'Below' as its post. -/
import Derived.Test.YtpdmhnppibfmkaaOcB
namespace Go.Proofs.Ytpdmhnppibfmkaa
set_option linter.unusedVariables false
set_option linter.unusedSimpArgs false
open Go.RowKit

theorem same_refl (a b : Option Addr) (la ca cb : Nat) (l : List UInt8) (w : World) (hl : Rd w a la l) (hk : Rd w b la l) :
    Calls Try.prog 22 #[.slice a la ca, .slice b la cb] w fun e w' => e = .returned (.bool true) ∧ Below w.heap.size w w' :=
  (same_any a b la la ca cb l l w hl hk).mono fun e w' ⟨h, n, hn⟩ => by
    subst hn
    exact ⟨by simpa using h, below_drewN (Below.refl _ w) n⟩
theorem same_b (a b : Option Addr) (la lb ca cb : Nat) (l k : List UInt8) (w : World) (hl : Rd w a la l) (hk : Rd w b lb k) :
    Calls Try.prog 22 #[.slice a la ca, .slice b lb cb] w fun e w' => e = .returned (.bool (decide (l = k))) ∧ Below w.heap.size w w' :=
  (same_any a b la lb ca cb l k w hl hk).mono fun e w' ⟨h, n, hn⟩ => by
    subst hn
    exact ⟨h, below_drewN (Below.refl _ w) n⟩

end Go.Proofs.Ytpdmhnppibfmkaa
