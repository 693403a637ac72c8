/-
  No cell of these rows narrows 'for every input' (looked for: loops, veiled, ifaces, maps, wideKeys, modest, calm, conditions, laid).
  DERIVED. THE GIVEN ROWS OF THIS SEAT. 5 by the template 'for every input the law returns true; each argument reads behind the call as it read before'; 0 by the template 'total and deterministic' (their statements: YtleicgigkbfnbaaTotals.lean).
  GIVEN WITH THE SEED: the statements are not yours to turn. If you find one false, say at which input.
  Laid BY PROGRAM, IN A SANDBOX (cutbox-rows.mjs): the forced cells as the released guide's own fill.sh prints them over the translation 909d66c31adca801… (all of the seat's roots in one cut). By AI agents, Wed Nov 11 2026. No macro, syntax, notation, axiom, sorry.
-/
import Derived.Test.YtleicgigkbfnbaaChecked
import GoSem.Claim
import GoSem.ClaimJoined
import GoSem.ClaimMapViews
import Derived.JoinedTies
import Derived.KernelRfl
namespace Go.Proofs.Ytleicgigkbfnbaa
/- THE CELL 'sum', in the pinned program and in every row, IS THE sha256 OF THE DUMP (.gsa) THAT YtleicgigkbfnbaaProg.lean LOADS. Nothing in Lean hashes anything: it is a label: what it is worth is what the hold of that sum in a sandbox is worth. -/
noncomputable def Try.pinned : Pinned := { name := "ytleicgigkbfnbaa", sum := "909d66c31adca8012f897c91339dbd504649dc71480933ae0130dc14eb2fb374", checked := Try.checked }
namespace Rows
def none {H : Type} : Left H := { results := [], args := [] }

/-- 'escritoirelaw21.RegisterKnown': WHATEVER THE INPUT: true; the input reads as it did. -/
def registerKnownSpec : ChangeSpec := { name := "registerKnown", fn := fun _ => fun
  | [] => { results := [.lit (.bool true)], args := [] }
  | _ => none }
def registerKnownRow : OpenClaim := { program := "ytleicgigkbfnbaa", sum := "909d66c31adca8012f897c91339dbd504649dc71480933ae0130dc14eb2fb374", func := "escritoire/escritoirelaw21.RegisterKnown", spec := "registerKnown", apart := false }
def RegisterKnownSaid : Prop := registerKnownRow.holds Try.pinned (OpenSpec.ofChange registerKnownSpec)

/-- ITS FALSE NEIGHBOUR: 'it returns false'. Refute it at one input. -/
def registerKnownWrong : ChangeSpec := { name := "registerKnown", fn := fun _ => fun
  | [] => { results := [.lit (.bool false)], args := [] }
  | _ => none }
def RegisterKnownWrongFalsely : Prop := registerKnownRow.holds Try.pinned (OpenSpec.ofChange registerKnownWrong)

/-- 'escritoirelaw21.RegisterRing': WHATEVER THE INPUT: true; the input reads as it did. -/
def registerRingSpec : ChangeSpec := { name := "registerRing", fn := fun _ => fun
  | [d1, d2] => { results := [.lit (.bool true)], args := [d1, d2] }
  | _ => none }
def registerRingRow : OpenClaim := { program := "ytleicgigkbfnbaa", sum := "909d66c31adca8012f897c91339dbd504649dc71480933ae0130dc14eb2fb374", func := "escritoire/escritoirelaw21.RegisterRing", spec := "registerRing", apart := false }
def RegisterRingSaid : Prop := registerRingRow.holds Try.pinned (OpenSpec.ofChange registerRingSpec)

/-- ITS FALSE NEIGHBOUR: 'it returns false'. Refute it at one input. -/
def registerRingWrong : ChangeSpec := { name := "registerRing", fn := fun _ => fun
  | [d1, d2] => { results := [.lit (.bool false)], args := [d1, d2] }
  | _ => none }
def RegisterRingWrongFalsely : Prop := registerRingRow.holds Try.pinned (OpenSpec.ofChange registerRingWrong)

/-- 'escritoirelaw21.RegisterAdds': WHATEVER THE INPUT: true; the input reads as it did. -/
def registerAddsSpec : ChangeSpec := { name := "registerAdds", fn := fun _ => fun
  | [d1, d2] => { results := [.lit (.bool true)], args := [d1, d2] }
  | _ => none }
def registerAddsRow : OpenClaim := { program := "ytleicgigkbfnbaa", sum := "909d66c31adca8012f897c91339dbd504649dc71480933ae0130dc14eb2fb374", func := "escritoire/escritoirelaw21.RegisterAdds", spec := "registerAdds", unfollowed := true, recurses := true, apart := false }
def RegisterAddsSaid : Prop := registerAddsRow.holds Try.pinned (OpenSpec.ofChange registerAddsSpec)

/-- ITS FALSE NEIGHBOUR: 'it returns false'. Refute it at one input. -/
def registerAddsWrong : ChangeSpec := { name := "registerAdds", fn := fun _ => fun
  | [d1, d2] => { results := [.lit (.bool false)], args := [d1, d2] }
  | _ => none }
def RegisterAddsWrongFalsely : Prop := registerAddsRow.holds Try.pinned (OpenSpec.ofChange registerAddsWrong)

/-- 'escritoirelaw21.RegisterPlays': WHATEVER THE INPUT: true; the input reads as it did. -/
def registerPlaysSpec : ChangeSpec := { name := "registerPlays", fn := fun _ => fun
  | [d1, d2] => { results := [.lit (.bool true)], args := [d1, d2] }
  | _ => none }
def registerPlaysRow : OpenClaim := { program := "ytleicgigkbfnbaa", sum := "909d66c31adca8012f897c91339dbd504649dc71480933ae0130dc14eb2fb374", func := "escritoire/escritoirelaw21.RegisterPlays", spec := "registerPlays", inPlace := ["maps.clone"], unfollowed := true, recurses := true, apart := false }
def RegisterPlaysSaid : Prop := registerPlaysRow.holds Try.pinned (OpenSpec.ofChange registerPlaysSpec)

/-- ITS FALSE NEIGHBOUR: 'it returns false'. Refute it at one input. -/
def registerPlaysWrong : ChangeSpec := { name := "registerPlays", fn := fun _ => fun
  | [d1, d2] => { results := [.lit (.bool false)], args := [d1, d2] }
  | _ => none }
def RegisterPlaysWrongFalsely : Prop := registerPlaysRow.holds Try.pinned (OpenSpec.ofChange registerPlaysWrong)

/-- 'escritoirelaw21.RegisterClones': WHATEVER THE INPUT: true; the input reads as it did. -/
def registerClonesSpec : ChangeSpec := { name := "registerClones", fn := fun _ => fun
  | [d1, d2] => { results := [.lit (.bool true)], args := [d1, d2] }
  | _ => none }
def registerClonesRow : OpenClaim := { program := "ytleicgigkbfnbaa", sum := "909d66c31adca8012f897c91339dbd504649dc71480933ae0130dc14eb2fb374", func := "escritoire/escritoirelaw21.RegisterClones", spec := "registerClones", inPlace := ["maps.clone"], unfollowed := true, recurses := true, apart := false }
def RegisterClonesSaid : Prop := registerClonesRow.holds Try.pinned (OpenSpec.ofChange registerClonesSpec)

/-- ITS FALSE NEIGHBOUR: 'it returns false'. Refute it at one input. -/
def registerClonesWrong : ChangeSpec := { name := "registerClones", fn := fun _ => fun
  | [d1, d2] => { results := [.lit (.bool false)], args := [d1, d2] }
  | _ => none }
def RegisterClonesWrongFalsely : Prop := registerClonesRow.holds Try.pinned (OpenSpec.ofChange registerClonesWrong)

/- THE SECOND FORM. 'bulk': how many values and letters a reading holds, each counted each time it is reached (what is shared counts as often as it is met; a slice's spare places count too). A statement '..UptoSaid' is the law's where the arguments, and the package variables that the reading takes, are together of bulk at most 1048576: NARROWER than '..Said'. Prove '..Said' where nothing that the law and all that it calls make is longer than what came in: it says more and counts as full. Else prove '..UptoSaid'. A law counts once. -/
mutual
def uptoBulk {H : Type} : DataW H → Nat
  | .lit (.string bytes) => bytes.length + 1
  | .lit _ => 1
  | .nil => 1
  | .ptr d => uptoBulk d + 1
  | .slice elems spare => uptoBulkAll elems + uptoBulkAll spare + 1
  | .agg parts => uptoBulkAll parts + 1
  | .iface _ d => uptoBulk d + 1
  | .map entries => uptoBulkEntries entries + 1
  | .held _ => 1
def uptoBulkAll {H : Type} : List (DataW H) → Nat
  | [] => 0
  | d :: r => uptoBulk d + uptoBulkAll r
def uptoBulkEntries {H : Type} : List (Lit × DataW H) → Nat
  | [] => 0
  | x :: r => uptoBulkEntry x + uptoBulkEntries r
def uptoBulkEntry {H : Type} : Lit × DataW H → Nat
  | (.string bytes, d) => bytes.length + uptoBulk d + 1
  | (_, d) => uptoBulk d + 1
 end
def uptoSmall : (H : Type) → List (DataW H) → Bool := fun _ ds => decide (uptoBulkAll ds ≤ 1048576)
def OpenSpec.upto (s : _root_.Go.ChangeSpec) : _root_.Go.OpenSpec := { _root_.Go.OpenSpec.ofChange s with cond := some uptoSmall }

/-- 'escritoirelaw21.RegisterKnown', WHERE WHAT IT READS IS OF BULK AT MOST 1048576: true; the input reads as it did. -/
def registerKnownUptoRow : OpenClaim := { program := "ytleicgigkbfnbaa", sum := "909d66c31adca8012f897c91339dbd504649dc71480933ae0130dc14eb2fb374", func := "escritoire/escritoirelaw21.RegisterKnown", spec := "registerKnown", apart := false, narrowed := true }
def RegisterKnownUptoSaid : Prop := registerKnownUptoRow.holds Try.pinned (OpenSpec.upto registerKnownSpec)

/-- 'escritoirelaw21.RegisterRing', WHERE WHAT IT READS IS OF BULK AT MOST 1048576: true; the input reads as it did. -/
def registerRingUptoRow : OpenClaim := { program := "ytleicgigkbfnbaa", sum := "909d66c31adca8012f897c91339dbd504649dc71480933ae0130dc14eb2fb374", func := "escritoire/escritoirelaw21.RegisterRing", spec := "registerRing", apart := false, narrowed := true }
def RegisterRingUptoSaid : Prop := registerRingUptoRow.holds Try.pinned (OpenSpec.upto registerRingSpec)

/-- 'escritoirelaw21.RegisterAdds', WHERE WHAT IT READS IS OF BULK AT MOST 1048576: true; the input reads as it did. -/
def registerAddsUptoRow : OpenClaim := { program := "ytleicgigkbfnbaa", sum := "909d66c31adca8012f897c91339dbd504649dc71480933ae0130dc14eb2fb374", func := "escritoire/escritoirelaw21.RegisterAdds", spec := "registerAdds", unfollowed := true, recurses := true, apart := false, narrowed := true }
def RegisterAddsUptoSaid : Prop := registerAddsUptoRow.holds Try.pinned (OpenSpec.upto registerAddsSpec)

/-- 'escritoirelaw21.RegisterPlays', WHERE WHAT IT READS IS OF BULK AT MOST 1048576: true; the input reads as it did. -/
def registerPlaysUptoRow : OpenClaim := { program := "ytleicgigkbfnbaa", sum := "909d66c31adca8012f897c91339dbd504649dc71480933ae0130dc14eb2fb374", func := "escritoire/escritoirelaw21.RegisterPlays", spec := "registerPlays", inPlace := ["maps.clone"], unfollowed := true, recurses := true, apart := false, narrowed := true }
def RegisterPlaysUptoSaid : Prop := registerPlaysUptoRow.holds Try.pinned (OpenSpec.upto registerPlaysSpec)

/-- 'escritoirelaw21.RegisterClones', WHERE WHAT IT READS IS OF BULK AT MOST 1048576: true; the input reads as it did. -/
def registerClonesUptoRow : OpenClaim := { program := "ytleicgigkbfnbaa", sum := "909d66c31adca8012f897c91339dbd504649dc71480933ae0130dc14eb2fb374", func := "escritoire/escritoirelaw21.RegisterClones", spec := "registerClones", inPlace := ["maps.clone"], unfollowed := true, recurses := true, apart := false, narrowed := true }
def RegisterClonesUptoSaid : Prop := registerClonesUptoRow.holds Try.pinned (OpenSpec.upto registerClonesSpec)

end Rows
end Go.Proofs.Ytleicgigkbfnbaa
