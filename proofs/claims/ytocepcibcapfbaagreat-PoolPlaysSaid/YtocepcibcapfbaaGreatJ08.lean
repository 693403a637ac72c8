/- The device in memory, with fuse, death and outcomes. -/
import Derived.Test.YtocepcibcapfbaaGreatJ04
import Derived.Test.YtocepcibcapfbaaGreatJ05
import Derived.Test.YtocepcibcapfbaaGreatJ06
import Derived.Test.YtocepcibcapfbaaGreatJ07
import Derived.Test.YtocepcibcapfbaaGreatJ00
import Derived.Laws.Entries
import Derived.Laws.BitsLemmas
import Derived.Defers
import Derived.Recover
import Derived.BigRegion
import Derived.BigQuiet
import Derived.Deep.QuietTactic
import Derived.Deep.RegionHeld3
import Derived.Deep.RegionLaw
import Derived.Deep.RegionWith
import Derived.Outline
import Derived.RegionTactic
import Derived.StillTailTactics
namespace Go.Proofs.YtocepcibcapfbaaGreat
set_option linter.unusedVariables false
set_option linter.unusedSimpArgs false
set_option linter.unusedSectionVars false
open Go.RowKit

/-- Blocks that no page and no row of outcomes may lie in. -/
structure AvT where
  out : Nat → Prop
variable [Inhabited AvT]
/-- Is it such a block? -/
def av (k : Nat) : Prop := (default : AvT).out k
/-- A slice's block is one of bytes, and none of those; all those are there. -/
def TagB (w : World) (no : Nat) (ao : Option Addr) : Prop := (∀ k, av k → k < w.heap.size) ∧ (0 < no → ∀ p, ao = some p → tagA w p.block = some (some 5) ∧ ¬ av p.block)
theorem TagB.ty {C : Nat} {T : Option TypeId → Prop} {w w' : World} {no : Nat} {ao : Option Addr} (h : TagB w no ao) (hw : Ty C T w w') : TagB w' no ao :=
  ⟨fun k hk => Nat.lt_of_lt_of_le (h.1 k hk) hw.size, fun h0 p e => ⟨by rw [hw.tag _ (tagA_lt (h.2 h0 p e).1)]; exact (h.2 h0 p e).1, (h.2 h0 p e).2⟩⟩
def dvF (vl : Value) (gn np cn : Nat) (vw : Value) (ao : Option Addr) (no co : Nat) (fz : Int) (dead : Bool) (ops : Nat) : Array Value :=
  #[vl, .slice (some ⟨gn, 0, none⟩) np cn, vw, .slice ao no co, .int .i64 fz, .bool dead, .int .i64 (ops : Int)]
/-- The writes that do not last yet, in cells. -/
def logV (l : List (Nat × List UInt8)) : List Value := (l.map fun q => .int .i64 (q.1 : Int) :: bvs q.2).flatten
/-- What lasts, and what was written since. -/
def DvW (B : Nat) (w : World) (gn np : Nat) (vl vw : Value) (nw : Nat) (lw : List Value) (x : P.Dv) : Prop :=
  OV w B 112 257 vw nw lw ∧ (lw = logV x.log ∧ nw = x.log.length) ∧ ∃ gl cl Cl, vl = .slice (some ⟨gl, 0, none⟩) np cl ∧ (B ≤ gl ∧ gl ≠ gn) ∧ w.heap[gl]? = some (.cells Cl 93 (0, 0)) ∧ RV w (some ⟨gl, 0, none⟩) np 256 (bvs x.sure) ∧ (np ≤ cl ∧ cl ≤ maxLen)
/-- Block d is the device x of np pages; all that is its lies from block B on. -/
def DvIs (B : Nat) (w : World) (d np : Nat) (x : P.Dv) : Prop :=
  ∃ vl gn cn vw ao no co fz nw lw Cn, w.heap[d]? = some (.cells (dvF vl gn np cn vw ao no co fz x.dead x.ops) 85 (0, 0)) ∧ (B ≤ d ∧ B ≤ gn) ∧ w.heap[gn]? = some (.cells Cn 93 (0, 0)) ∧
    RV w (some ⟨gn, 0, none⟩) np 256 (bvs x.img) ∧ (np ≤ cn ∧ cn ≤ maxLen) ∧ Rd w ao no x.outs ∧ (no ≤ co ∧ co ≤ maxLen) ∧ TagB w no ao ∧
    DvW B w gn np vl vw nw lw x ∧ nw ≤ x.ops ∧ (8 ≤ np ∧ np ≤ 4096) ∧ x.ops ≤ 1000000 ∧ x.fuse = max fz (-1) ∧ (-9223372036854775808 ≤ fz ∧ fz ≤ 9223372036854775807)
/-- The kinds that a device's calls turn. -/
def devT (t : Option TypeId) : Prop := t = some 85 ∨ t = some 93 ∨ t = some 112
/-- Kinds that are none of a device's. -/
def NoDev (T : Option TypeId → Prop) : Prop := ¬ T (some 85) ∧ ¬ T (some 93) ∧ ¬ T (some 112) ∧ ¬ T (some 5)
theorem DvW.ty {B C : Nat} {T : Option TypeId → Prop} {w w' : World} {gn np nw : Nat} {vl vw : Value} {lw : List Value} {x : P.Dv} (h : DvW B w gn np vl vw nw lw x) (hw : Ty C T w w') (hT : NoDev T) : DvW B w' gn np vl vw nw lw x := by
  obtain ⟨h9, e9, gl, cl, Cl, k1, k2, k3, k4, k5⟩ := h
  exact ⟨h9.ty hw (fun _ _ => .inr hT.2.2.1), e9, gl, cl, Cl, k1, k2, hw.cells k3 (.inr hT.2.1), k4.ty hw (fun _ p e => .inr ⟨_, by cases e; exact tagA_cells k3, hT.2.1⟩), k5⟩
theorem DvIs.ty {B C : Nat} {T : Option TypeId → Prop} {w w' : World} {d np : Nat} {x : P.Dv} (h : DvIs B w d np x) (hw : Ty C T w w') (hT : NoDev T) : DvIs B w' d np x := by
  obtain ⟨vl, gn, cn, vw, ao, no, co, fz, nw, lw, Cn, h1, h2, h3, h4, h5, h6, h7, h8, h9, h10, h11, h12, h13⟩ := h
  refine ⟨vl, gn, cn, vw, ao, no, co, fz, nw, lw, Cn, hw.cells h1 (.inr hT.1), h2, hw.cells h3 (.inr hT.2.1), h4.ty hw (fun _ p e => .inr ⟨_, by cases e; exact tagA_cells h3, hT.2.1⟩), h5, h6.ty hw (fun h0 p e => .inr ⟨_, (h8.2 h0 p e).1, hT.2.2.2⟩), h7, h8.ty hw, h9.ty hw hT, h10, h11, h12, h13⟩
theorem DvIs.avs {B : Nat} {w : World} {d np : Nat} {x : P.Dv} (h : DvIs B w d np x) : ∀ k, av k → k < w.heap.size := by
  obtain ⟨vl, gn, cn, vw, ao, no, co, fz, nw, lw, Cn, h1, h2, h3, h4, h5, h6, h7, h8, -⟩ := h
  exact h8.1
theorem DvIs.below {B : Nat} {w w' : World} {d np : Nat} {x : P.Dv} (h : DvIs B w d np x) (hb : Below w.heap.size w w') : DvIs B w' d np x :=
  h.ty (Ty.of_below (B := 0) (T := fun _ => False) hb) ⟨id, id, id, id⟩
theorem DvIs.lt {B : Nat} {w : World} {d np : Nat} {x : P.Dv} (h : DvIs B w d np x) : d < w.heap.size := by
  obtain ⟨vl, gn, cn, vw, ao, no, co, fz, nw, lw, Cn, h1, -⟩ := h
  exact lt_of_block h1
theorem DvIs.tag {B : Nat} {w : World} {d np : Nat} {x : P.Dv} (h : DvIs B w d np x) : tagA w d = some (some 85) ∧ B ≤ d := by
  obtain ⟨vl, gn, cn, vw, ao, no, co, fz, nw, lw, Cn, h1, h2, -⟩ := h
  exact ⟨tagA_cells h1, h2.1⟩
theorem DvIs.page {B : Nat} {w : World} {d np : Nat} {x : P.Dv} (h : DvIs B w d np x) : x.img.length = 256 * np := by
  obtain ⟨vl, gn, cn, vw, ao, no, co, fz, nw, lw, Cn, h1, h2, h3, h4, -⟩ := h
  have := h4.1
  rw [bvs_length] at this
  omega
theorem dfmade_any (B d np : Nat) (x : P.Dv) (w : World) (h : DvIs B w d np x) : Calls Tryz.prog 63 #[.pointer (some ⟨d, 0, none⟩)] w fun e w' => e = .returned (.bool true) ∧ w = w' := by
  obtain ⟨vl, gn, cn, vw, ao, no, co, fz, nw, lw, Cn, h1, -, -, -, -, -, -, -, -, -, h11, -⟩ := h
  have g := cell_blk h1
  have hp : (0 : Int) < (np : Int) := by omega
  have hp' : 0 < np := by omega
  unfold dvF at g
  clear h1
  go_enter Tryz.func63, Tryz.ntmps63
  go_wp2
  go_ret
  exact ⟨rfl, rfl⟩
theorem dfpages_any (B d np : Nat) (x : P.Dv) (w : World) (h : DvIs B w d np x) : Calls Tryz.prog 74 #[.pointer (some ⟨d, 0, none⟩)] w fun e w' => e = .returned (.int .i64 (np : Int)) ∧ w = w' := by
  have HM := Lib.hid (fun w (h : DvIs B w d np x) => dfmade_any B d np x w h)
  have H := Lib.hid h
  obtain ⟨vl, gn, cn, vw, ao, no, co, fz, nw, lw, Cn, h1, -, -, -, -, -, -, -, -, -, h11, -⟩ := h
  have g := cell_blk h1
  unfold dvF at g
  clear h1
  go_enter Tryz.func74, Tryz.ntmps74
  go_wp2_with (go_at_call 63; refine (HM.out _ H.out).mono ?_; rintro e w1 ⟨rfl, rfl⟩)
  go_ret
  exact ⟨rfl, rfl⟩
theorem dfops_any (B d np : Nat) (x : P.Dv) (w : World) (h : DvIs B w d np x) : Calls Tryz.prog 34 #[.pointer (some ⟨d, 0, none⟩)] w fun e w' => e = .returned (.int .i64 (x.ops : Int)) ∧ w = w' := by
  obtain ⟨vl, gn, cn, vw, ao, no, co, fz, nw, lw, Cn, h1, -⟩ := h
  have g := cell_blk h1
  unfold dvF at g
  clear h1
  go_enter Tryz.func34, Tryz.ntmps34
  go_wp2
  go_ret
  exact ⟨rfl, rfl⟩
theorem ret_blF {b c : Bool} (h : b = c) : Ending.returned (.bool b) = .returned (.bool c) := by rw [h]
theorem dfthere_any (B d np : Nat) (x : P.Dv) (n : Int) (b : Bool) (w : World) (h : DvIs B w d np x) (hb : decide (0 ≤ n ∧ n < (np : Int)) = b) : Calls Tryz.prog 69 #[.pointer (some ⟨d, 0, none⟩), .int .i64 n] w fun e w' => e = .returned (.bool b) ∧ w = w' := by
  have HP := Lib.hid (fun w (h : DvIs B w d np x) => dfpages_any B d np x w h)
  have H := Lib.hid h
  have HB := Lib.hid hb
  clear h hb
  go_enter Tryz.func69, Tryz.ntmps69
  by_cases h0 : 0 ≤ n
  all_goals
    go_wp2_with (go_at_call 74; refine (HP.out _ H.out).mono ?_; rintro e w1 ⟨rfl, rfl⟩)
    go_ret
    refine ⟨ret_blF ?_, rfl⟩
    rw [← HB.out]
    first
      | (symm; apply decide_eq_false; omega)
      | (apply decide_eq_decide.2; omega)
end Go.Proofs.YtocepcibcapfbaaGreat
