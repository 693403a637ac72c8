/- The walk of the reference's DecodeSuper, at a page that opens. Printed by gen_spi.py. -/
import Derived.Test.YtnjpaanjgbfbaaaJ18
namespace Go.Proofs.Ytnjpaanjgbfbaaa
set_option linter.unusedVariables false
set_option linter.unusedSimpArgs false
open Go.RowKit

theorem set8' {w w1 : World} {B : Nat} (h : Below B w w1) (u0 u1 u2 u3 u4 u5 u6 u7 : Value) :
    Below B w ((((((((w1.setCell ⟨B, 0, none⟩ u0).setCell ⟨B, 1, none⟩ u1).setCell ⟨B, 2, none⟩ u2).setCell ⟨B, 3, none⟩ u3).setCell ⟨B, 4, none⟩ u4).setCell ⟨B, 5, none⟩ u5).setCell ⟨B, 6, none⟩ u6).setCell ⟨B, 7, none⟩ u7) :=
  (((((((h.setCell (Nat.le_refl _) _).setCell (Nat.le_refl _) _).setCell (Nat.le_refl _) _).setCell (Nat.le_refl _) _).setCell (Nat.le_refl _) _).setCell (Nat.le_refl _) _).setCell (Nat.le_refl _) _).setCell (Nat.le_refl _) _
theorem openBody_length {l : List UInt8} (h : P.openErr l = 0) : (P.openBody l).length = 248 := by
  have := P.openErr_len l h
  simp [P.openBody]
  omega
end Go.Proofs.Ytnjpaanjgbfbaaa
