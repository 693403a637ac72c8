/- Maps from integers to values, as functions. -/
import Derived.Test.YtocepcibcapfbaaJ04
import Derived.Maps.OwnSet
import Derived.Maps.Views
namespace Go.Proofs.Ytocepcibcapfbaa
set_option linter.unusedVariables false
set_option linter.unusedSimpArgs false
open Go.RowKit Go.Maps

/-- A map type: its key's kind, its element and that one's zero. -/
structure MpT (mt kt et : TypeId) (q : IntKind) (z : Value) : Prop where
  key : Try.prog.underlying kt = some (.int q)
  und : Try.prog.underlying mt = some (.map kt et)
  zero : ∀ w : World, (zeroValue et).run Try.prog w = .ok z w
section
variable {mt kt et : TypeId} {q : IntKind} {z : Value}
end
end Go.Proofs.Ytocepcibcapfbaa
