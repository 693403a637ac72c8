/- A slice of slices of bytes, as lists. -/
import Derived.Test.YtleicgigkbfnbaaGr
namespace Go.Proofs.Ytleicgigkbfnbaa
set_option linter.unusedVariables false
set_option linter.unusedSimpArgs false
open Go.RowKit

/-- A slice of slices of bytes, as lists. -/
def RB (w : World) (a : Option Addr) (n : Nat) (L : List (List UInt8)) : Prop := L.length = n ∧ n ≤ maxLen ∧ ∀ (i : Nat) (hi : i < L.length), ∃ p ap cp, a = some p ∧ w.cell? (p.add i) = some (.slice ap (L[i]).length cp) ∧ Rd w ap (L[i]).length L[i] ∧ (L[i]).length ≤ cp
theorem RB.nil (w : World) (a : Option Addr) : RB w a 0 [] := ⟨rfl, Nat.zero_le _, fun i hi => absurd hi (Nat.not_lt_zero _)⟩
theorem RB.below {w w' : World} {a : Option Addr} {n : Nat} {L : List (List UInt8)} (h : RB w a n L) (hb : Below w.heap.size w w') : RB w' a n L :=
  ⟨h.1, h.2.1, fun i hi => by
    obtain ⟨p, ap, cp, h1, h2, h3, h4⟩ := h.2.2 i hi
    exact ⟨p, ap, cp, h1, (hb.cell (lt_of_cell h2)).trans h2, h3.below hb, h4⟩⟩
end Go.Proofs.Ytleicgigkbfnbaa
