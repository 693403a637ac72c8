/- The walk of Decode, at a page that opens. Printed by gen_spm.py. -/
import Derived.Test.YtnjpaanjgbfbaaaGreatJ21
import Derived.Test.YtnjpaanjgbfbaaaGreatJ22
import Derived.Test.YtnjpaanjgbfbaaaGreatJ23
import Derived.Test.YtnjpaanjgbfbaaaGreatJ24
namespace Go.Proofs.YtnjpaanjgbfbaaaGreat
set_option linter.unusedVariables false
set_option linter.unusedSimpArgs false
open Go.RowKit

theorem dec_body (a : Option Addr) (len cap : Nat) (l : List UInt8) (w : World) (hr : Rd w a len l) (hc : len ≤ cap) (he : P.openErr l = 0) :
    Calls Tryz.prog 57 #[.slice a len cap] w fun e w' => e = .returned (.tuple #[supV (P.sSup l), .int .i64 (P.sErr l)]) ∧ Below w.heap.size w w' := by
  rcases d1 : ((P.openKind l : Int) == 1) with _ | _
  · exact dec_b1 a len cap l w hr hc he d1
  rcases d2 : ((P.openLevel l : Int) == 0) with _ | _
  · exact dec_b2 a len cap l w hr hc he d1 d2
  rcases d3 : ((P.openCount l : Int) == 0) with _ | _
  · exact dec_b3 a len cap l w hr hc he d1 d2 d3
  rcases f0 : (P.get (P.openBody l) 0 8).2 with _ | _
  · exact dec_b4 a len cap l w hr hc he d1 d2 d3 f0
  rcases v4 : nought ((P.openBody l).drop 34) with _ | _
  · exact dec_b5 a len cap l w hr hc he d1 d2 d3 f0 v4
  rcases (P.dec (P.openBody l)).chk_cases with ⟨-, v5⟩ | ⟨-, v5⟩
  · exact dec_b7 a len cap l w hr hc he d1 d2 d3 f0 v4 v5
  · exact dec_b6 a len cap l w hr hc he d1 d2 d3 f0 v4 v5
end Go.Proofs.YtnjpaanjgbfbaaaGreat
