/- The walk of chapter 21's awake. -/
import Derived.Test.YtleicgigkbfnbaaReF
import Derived.Test.YtleicgigkbfnbaaReG
import Derived.Laws.IdiomStrings
import Derived.Lib.SlBytesConst
namespace Go.Proofs.Ytleicgigkbfnbaa
set_option linter.unusedVariables false
set_option linter.unusedSimpArgs false
open Go.RowKit

theorem below_chg2 {w w1 w2 : World} {B p b : Nat} (h : Below B w w1) (hc : Chg (fun j => j = p ∨ j = b) w1 w2) (hp : B ≤ p) (hb : B ≤ b) (hB : B ≤ w.heap.size) : Below B w w2 :=
  ⟨hc.os.trans h.os, hc.tape.trans h.tape, hc.output.trans h.output, Nat.le_trans h.size hc.size, fun i hi => (hc.block i (by have := h.size; omega) (by intro e; rcases e with e | e <;> omega)).trans (h.block i hi)⟩
theorem OB.conv {w : World} {B : Nat} {g c : Nat} {l : List UInt8} (h : OB w B (.slice (some ⟨g, 0, none⟩) l.length c) l) (o : Obj) :
    (convert 26 9 (.slice (some ⟨g, 0, none⟩) l.length c)).run Try.prog (w.alloc o) = .ok (.string ⟨l.toArray⟩) (w.alloc o) :=
  run_convert_bytes_back (w.alloc o) 26 9 5 ⟨g, 0, none⟩ c l Try.underlying26 Try.underlying5 Try.underlying9 (fun j hj => by
    have h2 := (h.alloc o).cell j hj
    have e : (⟨g, 0, none⟩ : Addr).add j = ⟨g, j, none⟩ := by unfold Addr.add; split <;> simp_all
    rw [e, h2]
    rfl)
set_option maxRecDepth 100000 in
set_option maxHeartbeats 1600000 in
theorem awake21_any (w : World) : Calls Try.prog 8 #[] w fun e w' => e = .returned (.bool true) ∧ Below w.heap.size w w' := by
  have e1 : (if setOk (yk 0) = true then sm (yk 0) else 48) = 48 := rfl
  have e2 : setOk (yk 0) = true := rfl
  have e3 : setM (fun _ => none) (yk 0) false [120] (gk 48 34) = some (false, [120]) := rfl
  have e4 : gk 48 34 = 48 := rfl
  have hcvt := fun (w : World) (C : Array Value) (n c : Nat) => Lib.run_convert_bytes_const (P := Try.prog) w 26 5 C n c Try.underlying26 Try.underlying5
  go_enter Try.func8, Try.ntmps8
  go_wp2_with fail
  refine (new_any _).mono ?_
  rintro e w1 ⟨rfl, hr1, hb1⟩
  have hba : Below w1.heap.size w1 (w1.alloc (.cells #[.int .u8 120] 5 (1, 2))) := (Below.refl _ w1).alloc (Nat.le_refl _) _
  have hrt := Rd_lit w1 5 [120] (fr := (1, 2)) (by simp [maxLen])
  have hra := hr1.below hba
  have hy := yank_any _ _ _ _ 0 false (some ⟨w1.heap.size, 0, none⟩) 1 1 [120] _ _ hra (by omega) (by omega) hrt (Nat.le_refl _) (by omega) (fun h => by omega)
  rw [e1, e2] at hy
  have HY := Lib.hid hy
  have hbb1 := below_then hb1 hba hb1.size
  clear hrt hra hy hr1
  go_wp2_with fail
  refine HY.out.mono ?_
  rintro e w2 ⟨rfl, hr2, hc2⟩
  have hbb2 := below_chg2 hbb1 hc2 (by omega) (Nat.le_refl _) (Nat.le_refl _)
  have hg := get_some _ _ _ _ 34 _ w2 hr2 (by omega) false [120] e3
  rw [e4] at hg
  have HG := Lib.hid hg
  clear hg hr2 hc2
  go_wp2_with fail
  refine HG.out.mono ?_
  rintro e w3 ⟨v3, rfl, ho3, hb3⟩
  have hbb3 := below_then hbb2 hb3 hbb2.size
  obtain ⟨g, c, rfl, -, -, -, -⟩ := ho3.pos (by simp)
  have hcv : ∀ o : Obj, (convert 26 9 (.slice (some ⟨g, 0, none⟩) 1 c)).run Try.prog (w3.alloc o) = .ok (.string ⟨#[120]⟩) (w3.alloc o) := fun o => ho3.conv o
  clear ho3
  go_wp2
  go_ret
  exact ⟨rfl, hbb3.alloc hbb3.size _⟩
end Go.Proofs.Ytleicgigkbfnbaa
