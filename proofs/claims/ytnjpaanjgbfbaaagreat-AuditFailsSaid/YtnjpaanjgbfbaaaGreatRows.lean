/-
  No cell of these rows narrows 'for every input' (looked for: loops, veiled, ifaces, maps, wideKeys, modest, calm, conditions, laid).
  DERIVED. THE GIVEN ROWS OF THIS SEAT. 4 by the template 'for every input the law returns true; each argument reads behind the call as it read before'; 0 by the template 'total and deterministic' (their statements: YtnjpaanjgbfbaaaGreatTotals.lean).
  GIVEN WITH THE SEED: the statements are not yours to turn. If you find one false, say at which input.
  Laid BY PROGRAM, IN A SANDBOX (cutbox-rows.mjs): the forced cells as the released guide's own fill.sh prints them over the translation db5ae3ff1192c7dd… (all of the seat's roots in one cut). By AI agents, Wed Nov 11 2026. No macro, syntax, notation, axiom, sorry.
-/
import Derived.Test.YtnjpaanjgbfbaaaGreatChecked
import GoSem.Claim
import GoSem.ClaimJoined
import GoSem.ClaimMapViews
import Derived.JoinedTies
import Derived.KernelRfl
namespace Go.Proofs.YtnjpaanjgbfbaaaGreat
/- THE CELL 'sum', in the pinned program and in every row, IS THE sha256 OF THE DUMP (.gsa) THAT YtnjpaanjgbfbaaaGreatProg.lean LOADS. Nothing in Lean hashes anything: it is a label: what it is worth is what the hold of that sum in a sandbox is worth. -/
noncomputable def Tryz.pinned : Pinned := { name := "ytnjpaanjgbfbaaagreat", sum := "db5ae3ff1192c7dd0d71b8d782c34849f91ba8f03d5326cc2a29431804c735c7", checked := Tryz.checked }
namespace Rows
def none {H : Type} : Left H := { results := [], args := [] }

/-- 'escritoirelaw12.AuditOpens': WHATEVER THE INPUT: true; the input reads as it did. -/
def auditOpensSpec : ChangeSpec := { name := "auditOpens", fn := fun _ => fun
  | [d1, d2, d3] => { results := [.lit (.bool true)], args := [d1, d2, d3] }
  | _ => none }
def auditOpensRow : OpenClaim := { program := "ytnjpaanjgbfbaaagreat", sum := "db5ae3ff1192c7dd0d71b8d782c34849f91ba8f03d5326cc2a29431804c735c7", func := "escritoire/escritoirelaw12.AuditOpens", spec := "auditOpens", unfollowed := true, recurses := true, apart := false }
def AuditOpensSaid : Prop := auditOpensRow.holds Tryz.pinned (OpenSpec.ofChange auditOpensSpec)

/-- ITS FALSE NEIGHBOUR: 'it returns false'. Refute it at one input. -/
def auditOpensWrong : ChangeSpec := { name := "auditOpens", fn := fun _ => fun
  | [d1, d2, d3] => { results := [.lit (.bool false)], args := [d1, d2, d3] }
  | _ => none }
def AuditOpensWrongFalsely : Prop := auditOpensRow.holds Tryz.pinned (OpenSpec.ofChange auditOpensWrong)

/-- 'escritoirelaw12.AuditStruck': WHATEVER THE INPUT: true; the input reads as it did. -/
def auditStruckSpec : ChangeSpec := { name := "auditStruck", fn := fun _ => fun
  | [d1, d2, d3] => { results := [.lit (.bool true)], args := [d1, d2, d3] }
  | _ => none }
def auditStruckRow : OpenClaim := { program := "ytnjpaanjgbfbaaagreat", sum := "db5ae3ff1192c7dd0d71b8d782c34849f91ba8f03d5326cc2a29431804c735c7", func := "escritoire/escritoirelaw12.AuditStruck", spec := "auditStruck", unfollowed := true, recurses := true, apart := false }
def AuditStruckSaid : Prop := auditStruckRow.holds Tryz.pinned (OpenSpec.ofChange auditStruckSpec)

/-- ITS FALSE NEIGHBOUR: 'it returns false'. Refute it at one input. -/
def auditStruckWrong : ChangeSpec := { name := "auditStruck", fn := fun _ => fun
  | [d1, d2, d3] => { results := [.lit (.bool false)], args := [d1, d2, d3] }
  | _ => none }
def AuditStruckWrongFalsely : Prop := auditStruckRow.holds Tryz.pinned (OpenSpec.ofChange auditStruckWrong)

/-- 'escritoirelaw12.AuditRaw': WHATEVER THE INPUT: true; the input reads as it did. -/
def auditRawSpec : ChangeSpec := { name := "auditRaw", fn := fun _ => fun
  | [d1, d2] => { results := [.lit (.bool true)], args := [d1, d2] }
  | _ => none }
def auditRawRow : OpenClaim := { program := "ytnjpaanjgbfbaaagreat", sum := "db5ae3ff1192c7dd0d71b8d782c34849f91ba8f03d5326cc2a29431804c735c7", func := "escritoire/escritoirelaw12.AuditRaw", spec := "auditRaw", unfollowed := true, recurses := true, apart := false }
def AuditRawSaid : Prop := auditRawRow.holds Tryz.pinned (OpenSpec.ofChange auditRawSpec)

/-- ITS FALSE NEIGHBOUR: 'it returns false'. Refute it at one input. -/
def auditRawWrong : ChangeSpec := { name := "auditRaw", fn := fun _ => fun
  | [d1, d2] => { results := [.lit (.bool false)], args := [d1, d2] }
  | _ => none }
def AuditRawWrongFalsely : Prop := auditRawRow.holds Tryz.pinned (OpenSpec.ofChange auditRawWrong)

/-- 'escritoirelaw12.AuditFails': WHATEVER THE INPUT: true; the input reads as it did. -/
def auditFailsSpec : ChangeSpec := { name := "auditFails", fn := fun _ => fun
  | [d1, d2, d3] => { results := [.lit (.bool true)], args := [d1, d2, d3] }
  | _ => none }
def auditFailsRow : OpenClaim := { program := "ytnjpaanjgbfbaaagreat", sum := "db5ae3ff1192c7dd0d71b8d782c34849f91ba8f03d5326cc2a29431804c735c7", func := "escritoire/escritoirelaw12.AuditFails", spec := "auditFails", unfollowed := true, recurses := true, apart := false }
def AuditFailsSaid : Prop := auditFailsRow.holds Tryz.pinned (OpenSpec.ofChange auditFailsSpec)

/-- ITS FALSE NEIGHBOUR: 'it returns false'. Refute it at one input. -/
def auditFailsWrong : ChangeSpec := { name := "auditFails", fn := fun _ => fun
  | [d1, d2, d3] => { results := [.lit (.bool false)], args := [d1, d2, d3] }
  | _ => none }
def AuditFailsWrongFalsely : Prop := auditFailsRow.holds Tryz.pinned (OpenSpec.ofChange auditFailsWrong)

/- THE SECOND FORM. 'bulk': how many values and letters a reading holds, each counted each time it is reached (what is shared counts as often as it is met; a slice's spare places count too). A statement '..UptoSaid' is the law's where the arguments, and the package variables that the reading takes, are together of bulk at most 1048576: NARROWER than '..Said'. Prove '..Said' where nothing that the law and all that it calls make is longer than what came in: it says more and counts as full. Else prove '..UptoSaid'. A law counts once. -/
mutual
def uptoBulk {H : Type} : DataW H → Nat
  | .lit (.string bytes) => bytes.length + 1
  | .lit _ => 1
  | .nil => 1
  | .ptr d => uptoBulk d + 1
  | .slice elems spare => uptoBulkAll elems + uptoBulkAll spare + 1
  | .agg parts => uptoBulkAll parts + 1
  | .iface _ d => uptoBulk d + 1
  | .map entries => uptoBulkEntries entries + 1
  | .held _ => 1
def uptoBulkAll {H : Type} : List (DataW H) → Nat
  | [] => 0
  | d :: r => uptoBulk d + uptoBulkAll r
def uptoBulkEntries {H : Type} : List (Lit × DataW H) → Nat
  | [] => 0
  | x :: r => uptoBulkEntry x + uptoBulkEntries r
def uptoBulkEntry {H : Type} : Lit × DataW H → Nat
  | (.string bytes, d) => bytes.length + uptoBulk d + 1
  | (_, d) => uptoBulk d + 1
 end
def uptoSmall : (H : Type) → List (DataW H) → Bool := fun _ ds => decide (uptoBulkAll ds ≤ 1048576)
def OpenSpec.upto (s : _root_.Go.ChangeSpec) : _root_.Go.OpenSpec := { _root_.Go.OpenSpec.ofChange s with cond := some uptoSmall }

/-- 'escritoirelaw12.AuditOpens', WHERE WHAT IT READS IS OF BULK AT MOST 1048576: true; the input reads as it did. -/
def auditOpensUptoRow : OpenClaim := { program := "ytnjpaanjgbfbaaagreat", sum := "db5ae3ff1192c7dd0d71b8d782c34849f91ba8f03d5326cc2a29431804c735c7", func := "escritoire/escritoirelaw12.AuditOpens", spec := "auditOpens", unfollowed := true, recurses := true, apart := false, narrowed := true }
def AuditOpensUptoSaid : Prop := auditOpensUptoRow.holds Tryz.pinned (OpenSpec.upto auditOpensSpec)

/-- 'escritoirelaw12.AuditStruck', WHERE WHAT IT READS IS OF BULK AT MOST 1048576: true; the input reads as it did. -/
def auditStruckUptoRow : OpenClaim := { program := "ytnjpaanjgbfbaaagreat", sum := "db5ae3ff1192c7dd0d71b8d782c34849f91ba8f03d5326cc2a29431804c735c7", func := "escritoire/escritoirelaw12.AuditStruck", spec := "auditStruck", unfollowed := true, recurses := true, apart := false, narrowed := true }
def AuditStruckUptoSaid : Prop := auditStruckUptoRow.holds Tryz.pinned (OpenSpec.upto auditStruckSpec)

/-- 'escritoirelaw12.AuditRaw', WHERE WHAT IT READS IS OF BULK AT MOST 1048576: true; the input reads as it did. -/
def auditRawUptoRow : OpenClaim := { program := "ytnjpaanjgbfbaaagreat", sum := "db5ae3ff1192c7dd0d71b8d782c34849f91ba8f03d5326cc2a29431804c735c7", func := "escritoire/escritoirelaw12.AuditRaw", spec := "auditRaw", unfollowed := true, recurses := true, apart := false, narrowed := true }
def AuditRawUptoSaid : Prop := auditRawUptoRow.holds Tryz.pinned (OpenSpec.upto auditRawSpec)

/-- 'escritoirelaw12.AuditFails', WHERE WHAT IT READS IS OF BULK AT MOST 1048576: true; the input reads as it did. -/
def auditFailsUptoRow : OpenClaim := { program := "ytnjpaanjgbfbaaagreat", sum := "db5ae3ff1192c7dd0d71b8d782c34849f91ba8f03d5326cc2a29431804c735c7", func := "escritoire/escritoirelaw12.AuditFails", spec := "auditFails", unfollowed := true, recurses := true, apart := false, narrowed := true }
def AuditFailsUptoSaid : Prop := auditFailsUptoRow.holds Tryz.pinned (OpenSpec.upto auditFailsSpec)

end Rows
end Go.Proofs.YtnjpaanjgbfbaaaGreat
