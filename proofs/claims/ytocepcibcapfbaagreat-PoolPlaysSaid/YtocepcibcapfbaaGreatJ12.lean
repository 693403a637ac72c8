/- The device: op, where it is dead, where it dies. -/
import Derived.Test.YtocepcibcapfbaaGreatJ11
namespace Go.Proofs.YtocepcibcapfbaaGreat
set_option linter.unusedVariables false
set_option linter.unusedSimpArgs false
set_option linter.unusedSectionVars false
open Go.RowKit
variable [Inhabited AvT]

set_option maxRecDepth 100000 in
set_option maxHeartbeats 3200000 in
theorem opf_dead (B d np : Nat) (x : P.Dv) (fd : FuncId) (caps : Array Value) (dy : Value) (w : World) (h : DvIs B w d np x) (hdead : x.dead = true) (hdy : ∃ f c, dy = .func (.func f) #[] c) :
    Calls Tryz.prog 70 #[.pointer (some ⟨d, 0, none⟩), .func (.func fd) #[] caps, dy] w fun e w' => e = .returned (.int .i64 7) ∧ Below w.heap.size w w' := by
  obtain ⟨fy, cy, rfl⟩ := hdy
  have HM := Lib.hid (fun w (h : DvIs B w d np x) => dfmade_any B d np x w h)
  obtain ⟨w0, hw0⟩ : ∃ w0, w0 = ((w.alloc (.cells #[.pointer (some ⟨d, 0, none⟩)] 25)).alloc (.cells #[.func (.func fy) #[] cy] 1)).alloc (.cells #[.int .i64 0] 26) := ⟨_, rfl⟩
  have hb0 : Below w.heap.size w w0 := by rw [hw0]; exact ((((Below.refl _ w).alloc (Nat.le_refl _) _).alloc (by simp) _).alloc (by simp; omega) _)
  have k0 : w0.heap[w.heap.size]? = some (.cells #[.pointer (some ⟨d, 0, none⟩)] 25 (0, 0)) := by rw [hw0]; exact alloc_old (alloc_old (alloc_new _ _ _ rfl) _) _
  have k2 : w0.heap[w.heap.size + 2]? = some (.cells #[.int .i64 0] 26 (0, 0)) := by rw [hw0]; exact alloc_new _ _ _ (by simp)
  have H0 := Lib.hid (h.below hb0)
  have h00 := h.below hb0
  have hlt := h.lt
  obtain ⟨vl, gn, cn, vw, ao, no, co, fz, nw, lw, Cn, d1, -⟩ := h00
  rw [hdead] at d1
  have g0 := cell_blk k0
  have g2 := cell_blk k2
  have f2 := free_blk k2
  have gd := cell_blk d1
  have n0 : ¬ d = w.heap.size := by omega
  have n2 : ¬ d = w.heap.size + 2 := by omega
  unfold dvF at gd
  have hcz := cell_blk (blk_setCell k2 0 (.int .i64 7))
  have HF := Lib.hid (below_chg hb0 (setCell_chg w0 (w.heap.size + 2) 0 (.int .i64 7)) hb0.size (fun i e => by omega))
  clear d1 k0 k2 h hb0 hdead
  go_enter_defers Tryz.func70, Tryz.ntmps70
  go_wp2_with fail
  rw [← hw0]
  refine (HM.out _ H0.out).mono ?_
  rintro e w1 ⟨rfl, rfl⟩
  clear hw0
  go_wp2
  have hf := HF.out
  simp [bodyPostD, Leaves, settle, results, Tryz.results70, go_sem, hcz]
  exact hf
set_option maxRecDepth 100000 in
theorem ta_death (w : World) : (Instr.typeAssert (.iface 103 (.agg #[])) 20 103 true).run Tryz.prog w = .ok (.tuple #[.agg #[], .bool true]) w := by
  simp [Instr.typeAssert, run_underlying Tryz.underlying103, go_sem, Result.andThen]
set_option maxRecDepth 100000 in
set_option maxHeartbeats 32000000 in
/-- What is deferred, where the device dies: it is dead; what is done then is done. -/
theorem op1_die (d g q r : Nat) (x : Int) (b : Bool) (fy : FuncId) (cy : Array Value) (older : List PanicEntry) (w : World) (R : Ending → World → Prop)
    (h1 : w.cell? ⟨q, 0, none⟩ = some (.pointer (some ⟨d, 0, none⟩))) (h2 : w.cell? ⟨r, 0, none⟩ = some (.func (.func fy) #[] cy)) (h3 : w.cell? ⟨g, 0, none⟩ = some (.int .i64 x)) (hz : w.frozen? ⟨g, 0, none⟩ = false)
    (h4 : w.cell? ⟨d, 5, none⟩ = some (.bool b)) (hz4 : w.frozen? ⟨d, 5, none⟩ = false) (hne : (d ≠ g ∧ d ≠ r) ∧ g ≠ r) (hs : q < w.heap.size ∧ d < w.heap.size ∧ g < w.heap.size ∧ r < w.heap.size)
    (hen : ∀ args w, (callFunc fy args).run Tryz.prog w = .ok (.enter fy args) w)
    (hdo : Calls Tryz.prog fy cy (((w.alloc (.cells #[] 103)).setCell ⟨d, 5, none⟩ (.bool true)).setCell ⟨g, 0, none⟩ (.int .i64 7)) fun e w' => R e w' ∧ e = .returned (.tuple #[])) :
    CallsD Tryz.prog 84 #[.pointer (some ⟨q, 0, none⟩), .pointer (some ⟨g, 0, none⟩), .pointer (some ⟨r, 0, none⟩)] (.panicking ({ v := .iface 103 (.agg #[]), recovered := false } :: older)) w fun e u' w' =>
      e = .returned (.tuple #[]) ∧ u' = .panicking ({ v := .iface 103 (.agg #[]), recovered := true } :: older) ∧ R e w' := by
  have hta := ta_death
  refine callsD_of_wpS Tryz.func84 rfl fun c₀ cs hu => ?_
  apply wpS_seq
  apply wpS_region
  simp [wpOpsS, go_sem, recoverD, hu, Tryz.ntmps84, Exit.thenS]
  apply wpS_seq
  apply wpS_region
  simp [wpOpsS, go_sem, Exit.thenS]
  refine wpS_cond (t := true) (by simp [Act.eval, Array.replicate]) ?_
  simp only [if_true]
  apply wpS_seq
  apply wpS_seq
  apply wpS_region
  simp [wpOpsS, go_sem, hta, Exit.thenS]
  apply wpS_seq
  apply wpS_region
  simp [wpOpsS, go_sem, Exit.thenS]
  refine wpS_cond (t := false) (by simp [Act.eval, Array.replicate]) ?_
  simp only [Bool.false_eq_true, if_false]
  refine wpS_of_wp (wp_skip ?_)
  simp only [Exit.thenS]
  obtain ⟨v, hv⟩ : ∃ v, v = w.alloc (.cells #[] 103) := ⟨_, rfl⟩
  rw [← hv] at hdo ⊢
  have hk : ∀ k i : Nat, k < w.heap.size → v.cell? ⟨k, i, none⟩ = w.cell? ⟨k, i, none⟩ := fun k i hk => World.cell?_of_block (w := w) (a := ⟨k, i, none⟩) (by rw [hv]; exact Below.heap_alloc _ _ _ hk)
  have hf : ∀ k i : Nat, k < w.heap.size → v.frozen? ⟨k, i, none⟩ = w.frozen? ⟨k, i, none⟩ := fun k i hk => by
    unfold World.frozen?
    rw [show v.heap[(⟨k, i, none⟩ : Addr).block]? = w.heap[(⟨k, i, none⟩ : Addr).block]? by rw [hv]; exact Below.heap_alloc _ _ _ hk]
  have v1 := (hk q 0 hs.1).trans h1
  have v2 := (hk r 0 hs.2.2.2).trans h2
  have v3 := (hk g 0 hs.2.2.1).trans h3
  have v4 := (hk d 5 hs.2.1).trans h4
  have w3 := (hf g 0 hs.2.2.1).trans hz
  have w4 := (hf d 5 hs.2.1).trans hz4
  have HDO := Lib.hid hdo
  have HEN := Lib.hid hen
  have e1 : ¬ d = g := hne.1.1
  have e2 : ¬ d = r := hne.1.2
  have e3 : ¬ g = r := hne.2
  have e1' : ¬ g = d := Ne.symm e1
  have e2' : ¬ r = d := Ne.symm e2
  have e3' : ¬ r = g := Ne.symm e3
  have HU := Lib.hid hu
  clear hv hk hf h1 h2 h3 h4 hz hz4 hs hdo hne hta hen hu
  refine wpS_of_wp ?_
  go_wp2_with fail
  rw [HEN.out, Oper.upon_enter]
  refine HDO.out.mono ?_
  rintro e w' ⟨hR, rfl⟩
  have HR := Lib.hid hR
  clear hR
  go_wp2
  have hu := HU.out
  have hR := HR.out
  cases c₀
  simp_all [bodyPostS, results, Tryz.results84]
end Go.Proofs.YtocepcibcapfbaaGreat
