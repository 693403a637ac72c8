/-
  No cell of these rows narrows 'for every input' (looked for: loops, veiled, ifaces, maps, wideKeys, modest, calm, conditions, laid).
  DERIVED. THE GIVEN ROWS OF THIS SEAT. 14 by the template 'for every input the law returns true; each argument reads behind the call as it read before'; 0 by the template 'total and deterministic' (their statements: YtpdmhnppibfmkaaTotals.lean).
  GIVEN WITH THE SEED: the statements are not yours to turn. If you find one false, say at which input.
  Laid BY PROGRAM, IN A SANDBOX (cutbox-rows.mjs): the forced cells as the released guide's own fill.sh prints them over the translation 08e65e9d1f34b6e9… (all of the seat's roots in one cut). By AI agents, Wed Nov 11 2026. No macro, syntax, notation, axiom, sorry.
-/
import Derived.Test.YtpdmhnppibfmkaaChecked
import GoSem.Claim
import GoSem.ClaimJoined
import GoSem.ClaimMapViews
import Derived.JoinedTies
import Derived.KernelRfl
namespace Go.Proofs.Ytpdmhnppibfmkaa
/- THE CELL 'sum', in the pinned program and in every row, IS THE sha256 OF THE DUMP (.gsa) THAT YtpdmhnppibfmkaaProg.lean LOADS. Nothing in Lean hashes anything: it is a label: what it is worth is what the hold of that sum in a sandbox is worth. -/
noncomputable def Try.pinned : Pinned := { name := "ytpdmhnppibfmkaa", sum := "08e65e9d1f34b6e9130f1a3c9d2df9a1b3c552571a2b5396137fa838e906e028", checked := Try.checked }
namespace Rows
def none {H : Type} : Left H := { results := [], args := [] }

/-- 'escritoirelaw7.SuperCodes': WHATEVER THE INPUT: true; the input reads as it did. -/
def superCodesSpec : ChangeSpec := { name := "superCodes", fn := fun _ => fun
  | [d1, d2] => { results := [.lit (.bool true)], args := [d1, d2] }
  | _ => none }
def superCodesRow : OpenClaim := { program := "ytpdmhnppibfmkaa", sum := "08e65e9d1f34b6e9130f1a3c9d2df9a1b3c552571a2b5396137fa838e906e028", func := "escritoire/escritoirelaw7.SuperCodes", spec := "superCodes", unfollowed := true, recurses := true, apart := false }
def SuperCodesSaid : Prop := superCodesRow.holds Try.pinned (OpenSpec.ofChange superCodesSpec)

/-- ITS FALSE NEIGHBOUR: 'it returns false'. Refute it at one input. -/
def superCodesWrong : ChangeSpec := { name := "superCodes", fn := fun _ => fun
  | [d1, d2] => { results := [.lit (.bool false)], args := [d1, d2] }
  | _ => none }
def SuperCodesWrongFalsely : Prop := superCodesRow.holds Try.pinned (OpenSpec.ofChange superCodesWrong)

/-- 'escritoirelaw7.SuperTears': WHATEVER THE INPUT: true; the input reads as it did. -/
def superTearsSpec : ChangeSpec := { name := "superTears", fn := fun _ => fun
  | [d1, d2, d3] => { results := [.lit (.bool true)], args := [d1, d2, d3] }
  | _ => none }
def superTearsRow : OpenClaim := { program := "ytpdmhnppibfmkaa", sum := "08e65e9d1f34b6e9130f1a3c9d2df9a1b3c552571a2b5396137fa838e906e028", func := "escritoire/escritoirelaw7.SuperTears", spec := "superTears", unfollowed := true, recurses := true, apart := false }
def SuperTearsSaid : Prop := superTearsRow.holds Try.pinned (OpenSpec.ofChange superTearsSpec)

/-- ITS FALSE NEIGHBOUR: 'it returns false'. Refute it at one input. -/
def superTearsWrong : ChangeSpec := { name := "superTears", fn := fun _ => fun
  | [d1, d2, d3] => { results := [.lit (.bool false)], args := [d1, d2, d3] }
  | _ => none }
def SuperTearsWrongFalsely : Prop := superTearsRow.holds Try.pinned (OpenSpec.ofChange superTearsWrong)

/-- 'escritoirelaw7.SuperKnown': WHATEVER THE INPUT: true; the input reads as it did. -/
def superKnownSpec : ChangeSpec := { name := "superKnown", fn := fun _ => fun
  | [] => { results := [.lit (.bool true)], args := [] }
  | _ => none }
def superKnownRow : OpenClaim := { program := "ytpdmhnppibfmkaa", sum := "08e65e9d1f34b6e9130f1a3c9d2df9a1b3c552571a2b5396137fa838e906e028", func := "escritoire/escritoirelaw7.SuperKnown", spec := "superKnown", unfollowed := true, recurses := true, apart := false }
def SuperKnownSaid : Prop := superKnownRow.holds Try.pinned (OpenSpec.ofChange superKnownSpec)

/-- ITS FALSE NEIGHBOUR: 'it returns false'. Refute it at one input. -/
def superKnownWrong : ChangeSpec := { name := "superKnown", fn := fun _ => fun
  | [] => { results := [.lit (.bool false)], args := [] }
  | _ => none }
def SuperKnownWrongFalsely : Prop := superKnownRow.holds Try.pinned (OpenSpec.ofChange superKnownWrong)

/-- 'escritoirelaw7.SuperChooses': WHATEVER THE INPUT: true; the input reads as it did. -/
def superChoosesSpec : ChangeSpec := { name := "superChooses", fn := fun _ => fun
  | [d1, d2] => { results := [.lit (.bool true)], args := [d1, d2] }
  | _ => none }
def superChoosesRow : OpenClaim := { program := "ytpdmhnppibfmkaa", sum := "08e65e9d1f34b6e9130f1a3c9d2df9a1b3c552571a2b5396137fa838e906e028", func := "escritoire/escritoirelaw7.SuperChooses", spec := "superChooses", unfollowed := true, recurses := true, apart := false }
def SuperChoosesSaid : Prop := superChoosesRow.holds Try.pinned (OpenSpec.ofChange superChoosesSpec)

/-- ITS FALSE NEIGHBOUR: 'it returns false'. Refute it at one input. -/
def superChoosesWrong : ChangeSpec := { name := "superChooses", fn := fun _ => fun
  | [d1, d2] => { results := [.lit (.bool false)], args := [d1, d2] }
  | _ => none }
def SuperChoosesWrongFalsely : Prop := superChoosesRow.holds Try.pinned (OpenSpec.ofChange superChoosesWrong)

/-- 'escritoirelaw8.CellLeaves': WHATEVER THE INPUT: true; the input reads as it did. -/
def cellLeavesSpec : ChangeSpec := { name := "cellLeaves", fn := fun _ => fun
  | [d] => { results := [.lit (.bool true)], args := [d] }
  | _ => none }
def cellLeavesRow : OpenClaim := { program := "ytpdmhnppibfmkaa", sum := "08e65e9d1f34b6e9130f1a3c9d2df9a1b3c552571a2b5396137fa838e906e028", func := "escritoire/escritoirelaw8.CellLeaves", spec := "cellLeaves", unfollowed := true, recurses := true, apart := false }
def CellLeavesSaid : Prop := cellLeavesRow.holds Try.pinned (OpenSpec.ofChange cellLeavesSpec)

/-- ITS FALSE NEIGHBOUR: 'it returns false'. Refute it at one input. -/
def cellLeavesWrong : ChangeSpec := { name := "cellLeaves", fn := fun _ => fun
  | [d] => { results := [.lit (.bool false)], args := [d] }
  | _ => none }
def CellLeavesWrongFalsely : Prop := cellLeavesRow.holds Try.pinned (OpenSpec.ofChange cellLeavesWrong)

/-- 'escritoirelaw11.ChainKnown': WHATEVER THE INPUT: true; the input reads as it did. -/
def chainKnownSpec : ChangeSpec := { name := "chainKnown", fn := fun _ => fun
  | [] => { results := [.lit (.bool true)], args := [] }
  | _ => none }
def chainKnownRow : OpenClaim := { program := "ytpdmhnppibfmkaa", sum := "08e65e9d1f34b6e9130f1a3c9d2df9a1b3c552571a2b5396137fa838e906e028", func := "escritoire/escritoirelaw11.ChainKnown", spec := "chainKnown", unfollowed := true, recurses := true, apart := false }
def ChainKnownSaid : Prop := chainKnownRow.holds Try.pinned (OpenSpec.ofChange chainKnownSpec)

/-- ITS FALSE NEIGHBOUR: 'it returns false'. Refute it at one input. -/
def chainKnownWrong : ChangeSpec := { name := "chainKnown", fn := fun _ => fun
  | [] => { results := [.lit (.bool false)], args := [] }
  | _ => none }
def ChainKnownWrongFalsely : Prop := chainKnownRow.holds Try.pinned (OpenSpec.ofChange chainKnownWrong)

/-- 'escritoirelaw11.ChainCuts': WHATEVER THE INPUT: true; the input reads as it did. -/
def chainCutsSpec : ChangeSpec := { name := "chainCuts", fn := fun _ => fun
  | [d1, d2, d3] => { results := [.lit (.bool true)], args := [d1, d2, d3] }
  | _ => none }
def chainCutsRow : OpenClaim := { program := "ytpdmhnppibfmkaa", sum := "08e65e9d1f34b6e9130f1a3c9d2df9a1b3c552571a2b5396137fa838e906e028", func := "escritoire/escritoirelaw11.ChainCuts", spec := "chainCuts", unfollowed := true, recurses := true, apart := false }
def ChainCutsSaid : Prop := chainCutsRow.holds Try.pinned (OpenSpec.ofChange chainCutsSpec)

/-- ITS FALSE NEIGHBOUR: 'it returns false'. Refute it at one input. -/
def chainCutsWrong : ChangeSpec := { name := "chainCuts", fn := fun _ => fun
  | [d1, d2, d3] => { results := [.lit (.bool false)], args := [d1, d2, d3] }
  | _ => none }
def ChainCutsWrongFalsely : Prop := chainCutsRow.holds Try.pinned (OpenSpec.ofChange chainCutsWrong)

/-- 'escritoirelaw11.ChainParts': WHATEVER THE INPUT: true; the input reads as it did. -/
def chainPartsSpec : ChangeSpec := { name := "chainParts", fn := fun _ => fun
  | [d] => { results := [.lit (.bool true)], args := [d] }
  | _ => none }
def chainPartsRow : OpenClaim := { program := "ytpdmhnppibfmkaa", sum := "08e65e9d1f34b6e9130f1a3c9d2df9a1b3c552571a2b5396137fa838e906e028", func := "escritoire/escritoirelaw11.ChainParts", spec := "chainParts", unfollowed := true, recurses := true, apart := false }
def ChainPartsSaid : Prop := chainPartsRow.holds Try.pinned (OpenSpec.ofChange chainPartsSpec)

/-- ITS FALSE NEIGHBOUR: 'it returns false'. Refute it at one input. -/
def chainPartsWrong : ChangeSpec := { name := "chainParts", fn := fun _ => fun
  | [d] => { results := [.lit (.bool false)], args := [d] }
  | _ => none }
def ChainPartsWrongFalsely : Prop := chainPartsRow.holds Try.pinned (OpenSpec.ofChange chainPartsWrong)

/-- 'escritoirelaw11.ChainBack': WHATEVER THE INPUT: true; the input reads as it did. -/
def chainBackSpec : ChangeSpec := { name := "chainBack", fn := fun _ => fun
  | [d1, d2] => { results := [.lit (.bool true)], args := [d1, d2] }
  | _ => none }
def chainBackRow : OpenClaim := { program := "ytpdmhnppibfmkaa", sum := "08e65e9d1f34b6e9130f1a3c9d2df9a1b3c552571a2b5396137fa838e906e028", func := "escritoire/escritoirelaw11.ChainBack", spec := "chainBack", unfollowed := true, recurses := true, apart := false }
def ChainBackSaid : Prop := chainBackRow.holds Try.pinned (OpenSpec.ofChange chainBackSpec)

/-- ITS FALSE NEIGHBOUR: 'it returns false'. Refute it at one input. -/
def chainBackWrong : ChangeSpec := { name := "chainBack", fn := fun _ => fun
  | [d1, d2] => { results := [.lit (.bool false)], args := [d1, d2] }
  | _ => none }
def ChainBackWrongFalsely : Prop := chainBackRow.holds Try.pinned (OpenSpec.ofChange chainBackWrong)

/-- 'escritoirelaw11.ChainOne': WHATEVER THE INPUT: true; the input reads as it did. -/
def chainOneSpec : ChangeSpec := { name := "chainOne", fn := fun _ => fun
  | [d1, d2, d3] => { results := [.lit (.bool true)], args := [d1, d2, d3] }
  | _ => none }
def chainOneRow : OpenClaim := { program := "ytpdmhnppibfmkaa", sum := "08e65e9d1f34b6e9130f1a3c9d2df9a1b3c552571a2b5396137fa838e906e028", func := "escritoire/escritoirelaw11.ChainOne", spec := "chainOne", unfollowed := true, recurses := true, apart := false }
def ChainOneSaid : Prop := chainOneRow.holds Try.pinned (OpenSpec.ofChange chainOneSpec)

/-- ITS FALSE NEIGHBOUR: 'it returns false'. Refute it at one input. -/
def chainOneWrong : ChangeSpec := { name := "chainOne", fn := fun _ => fun
  | [d1, d2, d3] => { results := [.lit (.bool false)], args := [d1, d2, d3] }
  | _ => none }
def ChainOneWrongFalsely : Prop := chainOneRow.holds Try.pinned (OpenSpec.ofChange chainOneWrong)

/-- 'escritoirelaw8.CellKnown': WHATEVER THE INPUT: true; the input reads as it did. -/
def cellKnownSpec : ChangeSpec := { name := "cellKnown", fn := fun _ => fun
  | [] => { results := [.lit (.bool true)], args := [] }
  | _ => none }
def cellKnownRow : OpenClaim := { program := "ytpdmhnppibfmkaa", sum := "08e65e9d1f34b6e9130f1a3c9d2df9a1b3c552571a2b5396137fa838e906e028", func := "escritoire/escritoirelaw8.CellKnown", spec := "cellKnown", unfollowed := true, recurses := true, apart := false }
def CellKnownSaid : Prop := cellKnownRow.holds Try.pinned (OpenSpec.ofChange cellKnownSpec)

/-- ITS FALSE NEIGHBOUR: 'it returns false'. Refute it at one input. -/
def cellKnownWrong : ChangeSpec := { name := "cellKnown", fn := fun _ => fun
  | [] => { results := [.lit (.bool false)], args := [] }
  | _ => none }
def CellKnownWrongFalsely : Prop := cellKnownRow.holds Try.pinned (OpenSpec.ofChange cellKnownWrong)

/-- 'escritoirelaw8.CellReads': WHATEVER THE INPUT: true; the input reads as it did. -/
def cellReadsSpec : ChangeSpec := { name := "cellReads", fn := fun _ => fun
  | [d] => { results := [.lit (.bool true)], args := [d] }
  | _ => none }
def cellReadsRow : OpenClaim := { program := "ytpdmhnppibfmkaa", sum := "08e65e9d1f34b6e9130f1a3c9d2df9a1b3c552571a2b5396137fa838e906e028", func := "escritoire/escritoirelaw8.CellReads", spec := "cellReads", unfollowed := true, recurses := true, apart := false }
def CellReadsSaid : Prop := cellReadsRow.holds Try.pinned (OpenSpec.ofChange cellReadsSpec)

/-- ITS FALSE NEIGHBOUR: 'it returns false'. Refute it at one input. -/
def cellReadsWrong : ChangeSpec := { name := "cellReads", fn := fun _ => fun
  | [d] => { results := [.lit (.bool false)], args := [d] }
  | _ => none }
def CellReadsWrongFalsely : Prop := cellReadsRow.holds Try.pinned (OpenSpec.ofChange cellReadsWrong)

/-- 'escritoirelaw8.CellInners': WHATEVER THE INPUT: true; the input reads as it did. -/
def cellInnersSpec : ChangeSpec := { name := "cellInners", fn := fun _ => fun
  | [d1, d2] => { results := [.lit (.bool true)], args := [d1, d2] }
  | _ => none }
def cellInnersRow : OpenClaim := { program := "ytpdmhnppibfmkaa", sum := "08e65e9d1f34b6e9130f1a3c9d2df9a1b3c552571a2b5396137fa838e906e028", func := "escritoire/escritoirelaw8.CellInners", spec := "cellInners", unfollowed := true, recurses := true, apart := false }
def CellInnersSaid : Prop := cellInnersRow.holds Try.pinned (OpenSpec.ofChange cellInnersSpec)

/-- ITS FALSE NEIGHBOUR: 'it returns false'. Refute it at one input. -/
def cellInnersWrong : ChangeSpec := { name := "cellInners", fn := fun _ => fun
  | [d1, d2] => { results := [.lit (.bool false)], args := [d1, d2] }
  | _ => none }
def CellInnersWrongFalsely : Prop := cellInnersRow.holds Try.pinned (OpenSpec.ofChange cellInnersWrong)

/-- 'escritoirelaw8.CellTexts': WHATEVER THE INPUT: true; the input reads as it did. -/
def cellTextsSpec : ChangeSpec := { name := "cellTexts", fn := fun _ => fun
  | [d1, d2] => { results := [.lit (.bool true)], args := [d1, d2] }
  | _ => none }
def cellTextsRow : OpenClaim := { program := "ytpdmhnppibfmkaa", sum := "08e65e9d1f34b6e9130f1a3c9d2df9a1b3c552571a2b5396137fa838e906e028", func := "escritoire/escritoirelaw8.CellTexts", spec := "cellTexts", unfollowed := true, recurses := true, apart := false }
def CellTextsSaid : Prop := cellTextsRow.holds Try.pinned (OpenSpec.ofChange cellTextsSpec)

/-- ITS FALSE NEIGHBOUR: 'it returns false'. Refute it at one input. -/
def cellTextsWrong : ChangeSpec := { name := "cellTexts", fn := fun _ => fun
  | [d1, d2] => { results := [.lit (.bool false)], args := [d1, d2] }
  | _ => none }
def CellTextsWrongFalsely : Prop := cellTextsRow.holds Try.pinned (OpenSpec.ofChange cellTextsWrong)

/- THE SECOND FORM. 'bulk': how many values and letters a reading holds, each counted each time it is reached (what is shared counts as often as it is met; a slice's spare places count too). A statement '..UptoSaid' is the law's where the arguments, and the package variables that the reading takes, are together of bulk at most 1048576: NARROWER than '..Said'. Prove '..Said' where nothing that the law and all that it calls make is longer than what came in: it says more and counts as full. Else prove '..UptoSaid'. A law counts once. -/
mutual
def uptoBulk {H : Type} : DataW H → Nat
  | .lit (.string bytes) => bytes.length + 1
  | .lit _ => 1
  | .nil => 1
  | .ptr d => uptoBulk d + 1
  | .slice elems spare => uptoBulkAll elems + uptoBulkAll spare + 1
  | .agg parts => uptoBulkAll parts + 1
  | .iface _ d => uptoBulk d + 1
  | .map entries => uptoBulkEntries entries + 1
  | .held _ => 1
def uptoBulkAll {H : Type} : List (DataW H) → Nat
  | [] => 0
  | d :: r => uptoBulk d + uptoBulkAll r
def uptoBulkEntries {H : Type} : List (Lit × DataW H) → Nat
  | [] => 0
  | x :: r => uptoBulkEntry x + uptoBulkEntries r
def uptoBulkEntry {H : Type} : Lit × DataW H → Nat
  | (.string bytes, d) => bytes.length + uptoBulk d + 1
  | (_, d) => uptoBulk d + 1
 end
def uptoSmall : (H : Type) → List (DataW H) → Bool := fun _ ds => decide (uptoBulkAll ds ≤ 1048576)
def OpenSpec.upto (s : _root_.Go.ChangeSpec) : _root_.Go.OpenSpec := { _root_.Go.OpenSpec.ofChange s with cond := some uptoSmall }

/-- 'escritoirelaw7.SuperCodes', WHERE WHAT IT READS IS OF BULK AT MOST 1048576: true; the input reads as it did. -/
def superCodesUptoRow : OpenClaim := { program := "ytpdmhnppibfmkaa", sum := "08e65e9d1f34b6e9130f1a3c9d2df9a1b3c552571a2b5396137fa838e906e028", func := "escritoire/escritoirelaw7.SuperCodes", spec := "superCodes", unfollowed := true, recurses := true, apart := false, narrowed := true }
def SuperCodesUptoSaid : Prop := superCodesUptoRow.holds Try.pinned (OpenSpec.upto superCodesSpec)

/-- 'escritoirelaw7.SuperTears', WHERE WHAT IT READS IS OF BULK AT MOST 1048576: true; the input reads as it did. -/
def superTearsUptoRow : OpenClaim := { program := "ytpdmhnppibfmkaa", sum := "08e65e9d1f34b6e9130f1a3c9d2df9a1b3c552571a2b5396137fa838e906e028", func := "escritoire/escritoirelaw7.SuperTears", spec := "superTears", unfollowed := true, recurses := true, apart := false, narrowed := true }
def SuperTearsUptoSaid : Prop := superTearsUptoRow.holds Try.pinned (OpenSpec.upto superTearsSpec)

/-- 'escritoirelaw7.SuperKnown', WHERE WHAT IT READS IS OF BULK AT MOST 1048576: true; the input reads as it did. -/
def superKnownUptoRow : OpenClaim := { program := "ytpdmhnppibfmkaa", sum := "08e65e9d1f34b6e9130f1a3c9d2df9a1b3c552571a2b5396137fa838e906e028", func := "escritoire/escritoirelaw7.SuperKnown", spec := "superKnown", unfollowed := true, recurses := true, apart := false, narrowed := true }
def SuperKnownUptoSaid : Prop := superKnownUptoRow.holds Try.pinned (OpenSpec.upto superKnownSpec)

/-- 'escritoirelaw7.SuperChooses', WHERE WHAT IT READS IS OF BULK AT MOST 1048576: true; the input reads as it did. -/
def superChoosesUptoRow : OpenClaim := { program := "ytpdmhnppibfmkaa", sum := "08e65e9d1f34b6e9130f1a3c9d2df9a1b3c552571a2b5396137fa838e906e028", func := "escritoire/escritoirelaw7.SuperChooses", spec := "superChooses", unfollowed := true, recurses := true, apart := false, narrowed := true }
def SuperChoosesUptoSaid : Prop := superChoosesUptoRow.holds Try.pinned (OpenSpec.upto superChoosesSpec)

/-- 'escritoirelaw8.CellLeaves', WHERE WHAT IT READS IS OF BULK AT MOST 1048576: true; the input reads as it did. -/
def cellLeavesUptoRow : OpenClaim := { program := "ytpdmhnppibfmkaa", sum := "08e65e9d1f34b6e9130f1a3c9d2df9a1b3c552571a2b5396137fa838e906e028", func := "escritoire/escritoirelaw8.CellLeaves", spec := "cellLeaves", unfollowed := true, recurses := true, apart := false, narrowed := true }
def CellLeavesUptoSaid : Prop := cellLeavesUptoRow.holds Try.pinned (OpenSpec.upto cellLeavesSpec)

/-- 'escritoirelaw11.ChainKnown', WHERE WHAT IT READS IS OF BULK AT MOST 1048576: true; the input reads as it did. -/
def chainKnownUptoRow : OpenClaim := { program := "ytpdmhnppibfmkaa", sum := "08e65e9d1f34b6e9130f1a3c9d2df9a1b3c552571a2b5396137fa838e906e028", func := "escritoire/escritoirelaw11.ChainKnown", spec := "chainKnown", unfollowed := true, recurses := true, apart := false, narrowed := true }
def ChainKnownUptoSaid : Prop := chainKnownUptoRow.holds Try.pinned (OpenSpec.upto chainKnownSpec)

/-- 'escritoirelaw11.ChainCuts', WHERE WHAT IT READS IS OF BULK AT MOST 1048576: true; the input reads as it did. -/
def chainCutsUptoRow : OpenClaim := { program := "ytpdmhnppibfmkaa", sum := "08e65e9d1f34b6e9130f1a3c9d2df9a1b3c552571a2b5396137fa838e906e028", func := "escritoire/escritoirelaw11.ChainCuts", spec := "chainCuts", unfollowed := true, recurses := true, apart := false, narrowed := true }
def ChainCutsUptoSaid : Prop := chainCutsUptoRow.holds Try.pinned (OpenSpec.upto chainCutsSpec)

/-- 'escritoirelaw11.ChainParts', WHERE WHAT IT READS IS OF BULK AT MOST 1048576: true; the input reads as it did. -/
def chainPartsUptoRow : OpenClaim := { program := "ytpdmhnppibfmkaa", sum := "08e65e9d1f34b6e9130f1a3c9d2df9a1b3c552571a2b5396137fa838e906e028", func := "escritoire/escritoirelaw11.ChainParts", spec := "chainParts", unfollowed := true, recurses := true, apart := false, narrowed := true }
def ChainPartsUptoSaid : Prop := chainPartsUptoRow.holds Try.pinned (OpenSpec.upto chainPartsSpec)

/-- 'escritoirelaw11.ChainBack', WHERE WHAT IT READS IS OF BULK AT MOST 1048576: true; the input reads as it did. -/
def chainBackUptoRow : OpenClaim := { program := "ytpdmhnppibfmkaa", sum := "08e65e9d1f34b6e9130f1a3c9d2df9a1b3c552571a2b5396137fa838e906e028", func := "escritoire/escritoirelaw11.ChainBack", spec := "chainBack", unfollowed := true, recurses := true, apart := false, narrowed := true }
def ChainBackUptoSaid : Prop := chainBackUptoRow.holds Try.pinned (OpenSpec.upto chainBackSpec)

/-- 'escritoirelaw11.ChainOne', WHERE WHAT IT READS IS OF BULK AT MOST 1048576: true; the input reads as it did. -/
def chainOneUptoRow : OpenClaim := { program := "ytpdmhnppibfmkaa", sum := "08e65e9d1f34b6e9130f1a3c9d2df9a1b3c552571a2b5396137fa838e906e028", func := "escritoire/escritoirelaw11.ChainOne", spec := "chainOne", unfollowed := true, recurses := true, apart := false, narrowed := true }
def ChainOneUptoSaid : Prop := chainOneUptoRow.holds Try.pinned (OpenSpec.upto chainOneSpec)

/-- 'escritoirelaw8.CellKnown', WHERE WHAT IT READS IS OF BULK AT MOST 1048576: true; the input reads as it did. -/
def cellKnownUptoRow : OpenClaim := { program := "ytpdmhnppibfmkaa", sum := "08e65e9d1f34b6e9130f1a3c9d2df9a1b3c552571a2b5396137fa838e906e028", func := "escritoire/escritoirelaw8.CellKnown", spec := "cellKnown", unfollowed := true, recurses := true, apart := false, narrowed := true }
def CellKnownUptoSaid : Prop := cellKnownUptoRow.holds Try.pinned (OpenSpec.upto cellKnownSpec)

/-- 'escritoirelaw8.CellReads', WHERE WHAT IT READS IS OF BULK AT MOST 1048576: true; the input reads as it did. -/
def cellReadsUptoRow : OpenClaim := { program := "ytpdmhnppibfmkaa", sum := "08e65e9d1f34b6e9130f1a3c9d2df9a1b3c552571a2b5396137fa838e906e028", func := "escritoire/escritoirelaw8.CellReads", spec := "cellReads", unfollowed := true, recurses := true, apart := false, narrowed := true }
def CellReadsUptoSaid : Prop := cellReadsUptoRow.holds Try.pinned (OpenSpec.upto cellReadsSpec)

/-- 'escritoirelaw8.CellInners', WHERE WHAT IT READS IS OF BULK AT MOST 1048576: true; the input reads as it did. -/
def cellInnersUptoRow : OpenClaim := { program := "ytpdmhnppibfmkaa", sum := "08e65e9d1f34b6e9130f1a3c9d2df9a1b3c552571a2b5396137fa838e906e028", func := "escritoire/escritoirelaw8.CellInners", spec := "cellInners", unfollowed := true, recurses := true, apart := false, narrowed := true }
def CellInnersUptoSaid : Prop := cellInnersUptoRow.holds Try.pinned (OpenSpec.upto cellInnersSpec)

/-- 'escritoirelaw8.CellTexts', WHERE WHAT IT READS IS OF BULK AT MOST 1048576: true; the input reads as it did. -/
def cellTextsUptoRow : OpenClaim := { program := "ytpdmhnppibfmkaa", sum := "08e65e9d1f34b6e9130f1a3c9d2df9a1b3c552571a2b5396137fa838e906e028", func := "escritoire/escritoirelaw8.CellTexts", spec := "cellTexts", unfollowed := true, recurses := true, apart := false, narrowed := true }
def CellTextsUptoSaid : Prop := cellTextsUptoRow.holds Try.pinned (OpenSpec.upto cellTextsSpec)

end Rows
end Go.Proofs.Ytpdmhnppibfmkaa
