/- Pages of cells. Plain law. -/
import Derived.Test.YtocepcibcapfbaaJ10
namespace Go.Proofs.Ytocepcibcapfbaa.P
/-- What the bytes of a page say. -/
def zeros (l : List UInt8) : Bool := l.all (· == 0)
def goodP (b : List UInt8) : Prop := openKind b = 3 ∧ openLevel b = 0 ∧ 1 ≤ openCount b ∧ openCount b ≤ 20 ∧ zeros ((openBody b).drop (12 * openCount b)) = true ∧ ∀ i, i < openCount b → okP (chunk 12 (openBody b) i) = true
def goodK (b : List UInt8) : Prop := openKind b = 2 ∧ 1 ≤ openLevel b ∧ openLevel b ≤ 32 ∧ 1 ≤ openCount b ∧ openCount b ≤ 12 ∧ zeros ((openBody b).drop (20 * openCount b)) = true ∧ ∀ i, i < openCount b → okK (chunk 20 (openBody b) i) = true
def goodT (b : List UInt8) : Prop := openKind b = 4 ∧ openLevel b = 0 ∧ 1 ≤ openCount b ∧ openCount b ≤ 248 ∧ zeros ((openBody b).drop (openCount b)) = true
instance (b : List UInt8) : Decidable (goodP b) := by unfold goodP; infer_instance
instance (b : List UInt8) : Decidable (goodK b) := by unfold goodK; infer_instance
instance (b : List UInt8) : Decidable (goodT b) := by unfold goodT; infer_instance
def pcErr (b : List UInt8) : Int := if openErr b ≠ 0 then openErr b else if goodP b then 0 else 4
def pcL (b : List UInt8) : List Q := if pcErr b = 0 then cellsOf decP 12 (openBody b) (openCount b) else []
def kdErr (b : List UInt8) : Int := if openErr b ≠ 0 then openErr b else if goodK b then 0 else 4
def kdL (b : List UInt8) : List Q := if kdErr b = 0 then cellsOf decK 20 (openBody b) (openCount b) else []
def kdV (b : List UInt8) : Int := if kdErr b = 0 then openLevel b else 0
def txErr (b : List UInt8) : Int := if openErr b ≠ 0 then openErr b else if goodT b then 0 else 4
def txL (b : List UInt8) : List UInt8 := if txErr b = 0 then (openBody b).take (openCount b) else []
end Go.Proofs.Ytocepcibcapfbaa.P
/- Chains: bytes on pages one behind the other. Plain law. -/
namespace Go.Proofs.Ytocepcibcapfbaa.P
def nxt (b : List UInt8) : Int := (get (openBody b) 0 4).1
def goodC (b : List UInt8) : Prop := openKind b = 5 ∧ openLevel b = 0 ∧ 1 ≤ openCount b ∧ openCount b ≤ 244 ∧ (nxt b = 0 ∨ 2 ≤ nxt b ∧ nxt b < 4096 ∧ openCount b = 244) ∧ zeros ((openBody b).drop (4 + openCount b)) = true
instance (b : List UInt8) : Decidable (goodC b) := by unfold goodC; infer_instance
end Go.Proofs.Ytocepcibcapfbaa.P
