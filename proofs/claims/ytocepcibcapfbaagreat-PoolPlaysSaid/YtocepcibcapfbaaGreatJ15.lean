/- The device: Read, whatever befalls it: through op. -/
import Derived.Test.YtocepcibcapfbaaGreatJ14
namespace Go.Proofs.YtocepcibcapfbaaGreat
set_option linter.unusedVariables false
set_option linter.unusedSimpArgs false
set_option linter.unusedSectionVars false
open Go.RowKit
variable [Inhabited AvT]

theorem OB.ty {C B : Nat} {T : Option TypeId → Prop} {w w' : World} {v : Value} {l : List UInt8} (h : OB w B v l) (hw : Ty C T w w') (ht : ∀ k, v.ownBlock = some k → k < C ∨ ¬ T (some 5)) : OB w' B v l := OV.ty (t := 5) (s := 1) (n := l.length) (l := bvs l) h hw ht
theorem enter_of {P : Program} {F : FuncId} {fn : Func} (hf : P.funcs[F]? = some fn) (hn : (fn.name == "runtime.NumGoroutine") = false) (hb : fn.body.isNone = false) (args : Array Value) (w : World) : (callFunc F args).run P w = .ok (.enter F args) w := by
  have hn' : ¬ fn.name = "runtime.NumGoroutine" := by simpa using hn
  have hb' : ¬ fn.body = none := by intro e; rw [e] at hb; cases hb
  simp [callFunc, go_sem, hf, hn', hb']
theorem nothing_any (w : World) : Calls Tryz.prog 72 #[] w fun e w' => e = .returned (.tuple #[]) ∧ w = w' := by
  go_enter Tryz.func72, Tryz.ntmps72
  go_wp2
  simp [bodyPost, results, Tryz.results72, go_sem]
theorem nothing_en (args : Array Value) (w : World) : (callFunc 72 args).run Tryz.prog w = .ok (.enter 72 args) w :=
  enter_of Tryz.func72 (by kernel_rfl) (by kernel_rfl) args w
theorem read1_en (args : Array Value) (w : World) : (callFunc 71 args).run Tryz.prog w = .ok (.enter 71 args) w :=
  enter_of Tryz.func71 (by kernel_rfl) (by kernel_rfl) args w
theorem rdE_dead {x : P.Dv} (h : x.dead = true) : x.rdE = 7 ∧ x.rdD = x := by
  unfold P.Dv.rdE P.Dv.rdD
  rw [if_pos (.inl h), if_pos h]
  exact ⟨rfl, rfl⟩
theorem rdE_die {x : P.Dv} (h : x.dead = false) (hf : x.fuse = 0) : x.rdE = 7 ∧ x.rdD = x.op := by
  have ho : x.out = 3 := by unfold P.Dv.out; rw [if_pos hf]
  unfold P.Dv.rdE P.Dv.rdD
  rw [if_pos (.inr (.inl ho)), if_neg (by rw [h]; simp)]
  exact ⟨rfl, rfl⟩
theorem rdE_do {x : P.Dv} (h : x.dead = false) (hf : x.fuse ≠ 0) : x.out < 3 ∧ x.rdE = (if x.out = 1 then 7 else 0) ∧ x.rdD = x.op := by
  have ho : x.out < 3 := by unfold P.Dv.out; rw [if_neg hf]; exact Nat.mod_lt _ (by omega)
  unfold P.Dv.rdE P.Dv.rdD
  rw [if_neg (show ¬ x.dead = true by rw [h]; simp)]
  refine ⟨ho, ?_, rfl⟩
  by_cases h1 : x.out = 1
  · rw [if_pos (.inr (.inr h1)), if_pos h1]
  · rw [if_neg (by rw [h]; simp; omega), if_neg h1]
theorem opread (ws : World) (pd pp po : Nat) (n : Nat) (B d np : Nat) (x : P.Dv) (w : World) (h : DvIs B w d np x) (hn : n < np) (hop : x.ops < 1000000) (hbs : Below ws.heap.size ws w)
    (h1 : w.heap[pd]? = some (.cells #[.pointer (some ⟨d, 0, none⟩)] 25 (0, 0))) (h2 : w.heap[pp]? = some (.cells #[.int .i64 (n : Int)] 3 (0, 0))) (h3 : w.heap[po]? = some (.cells #[.slice none 0 0] 38 (0, 0))) (hpo : ws.heap.size ≤ po) :
    Calls Tryz.prog 70 #[.pointer (some ⟨d, 0, none⟩), .func (.func 71) #[] #[.pointer (some ⟨pd, 0, none⟩), .pointer (some ⟨pp, 0, none⟩), .pointer (some ⟨po, 0, none⟩)], .func (.func 72) #[] #[]] w fun e w' =>
      e = .returned (.int .i64 x.rdE) ∧ DvIs B w' d np x.rdD ∧ Ty B devT ws w' ∧ ∃ v, w'.heap[po]? = some (.cells #[v] 38 (0, 0)) ∧ (x.rdE = 7 → v = .slice none 0 0) ∧ (x.rdE = 0 → OB w' w.heap.size v (P.pgD x.img n)) := by
  have hnd : ¬ devT (some 38) := by unfold devT; decide
  rcases hdead : x.dead with _ | _
  rotate_left
  · rw [(rdE_dead hdead).1, (rdE_dead hdead).2]
    refine (opf_dead B d np x _ _ _ w h hdead ⟨_, _, rfl⟩).mono ?_
    rintro e w' ⟨rfl, hb⟩
    exact ⟨rfl, h.below hb, (Ty.of_below hbs).trans (Ty.of_below hb), _, (hb.block po (lt_of_block h3)).trans h3, fun _ => rfl, fun e => by omega⟩
  by_cases hf : x.fuse = 0
  · rw [(rdE_die hdead hf).1, (rdE_die hdead hf).2]
    refine (opf_die B d np x _ _ _ _ (fun wx w' => wx = w') w h (fun _ => False) id hdead hf hop nothing_en (fun wx _ _ => (nothing_any wx).mono (fun e w' hh => ⟨⟨hh.2, hh.2 ▸ Ty.refl _ _ _⟩, hh.1⟩))).mono ?_
    rintro e w' ⟨rfl, wx, ht, hD, -, rfl⟩
    exact ⟨rfl, hD, (Ty.of_below hbs).trans ht, _, ht.cells h3 (.inr hnd), fun _ => rfl, fun e => by omega⟩
  · obtain ⟨o1, o2, o3⟩ := rdE_do hdead hf
    rw [o2, o3]
    have hpl := lt_of_block h3
    refine (opf_any B d np x _ _ _ (Rd1 po x.out (P.pgD x.op.img n)) w h (fun t => t = some 38) (by decide) hdead hf hop ⟨_, _, rfl⟩ read1_en (fun wx ht hs hD => ?_)).mono ?_
    · have q1 := ht.cells h1 (.inr (by unfold devT; decide))
      have q2 := ht.cells h2 (.inr (by unfold devT; decide))
      have q3 := ht.cells h3 (.inr hnd)
      have hdt := hD.tag.1
      refine (read1F x.out o1 pd pp po n B d np x.op wx hD hn (cell_blk q1 0) (cell_blk q2 0) q3 ⟨fun e => by rw [e] at q3; rw [tagA_cells q3] at hdt; simp at hdt, fun e => by rw [e, q1] at q3; simp at q3, fun e => by rw [e, q2] at q3; simp at q3⟩).mono ?_
      intro e w1 hR
      refine ⟨hR, ?_, ?_⟩
      · rcases hR with ⟨-, rfl, -⟩ | ⟨-, v, w2, rfl, -⟩
        · exact ⟨_, rfl⟩
        · exact ⟨_, rfl⟩
      · rcases hR with ⟨-, -, rfl⟩ | ⟨-, v, w2, -, rfl, -, hb2⟩
        · exact Ty.refl _ _ _
        · exact (Ty.of_below hb2).setCell _ _ (.inr ⟨Nat.zero_le _, _, tagA_cells ((hb2.block po (lt_of_block q3)).trans q3), rfl⟩)
    · rintro e w' ⟨wx, w1, k, ht, hD, hR, rfl, hte, hsz⟩
      have q3 := ht.cells h3 (.inr hnd)
      have himg : x.op.img = x.img := by unfold P.Dv.op; split <;> rfl
      rw [himg] at hR
      rcases hR with ⟨h1c, e1, rfl⟩ | ⟨h1c, v, w2, e1, rfl, hob, hb2⟩
      · cases e1
        rw [if_pos h1c]
        exact ⟨rfl, hD.ty hte ⟨by decide, by decide, by decide, by decide⟩, ((Ty.of_below hbs).trans ht).new (hte.mono hbs.size (fun _ h => h)), _, hte.cells q3 (.inr (by decide)), fun _ => rfl, fun e => by omega⟩
      · cases e1
        rw [if_neg h1c]
        have q4 := (hb2.block po (lt_of_block q3)).trans q3
        have hts : Ty po (fun t => t = some 38) w2 (w2.setCell ⟨po, 0, none⟩ v) := (Ty.refl _ _ _).setCell _ _ (.inr ⟨Nat.le_refl _, _, tagA_cells q4, rfl⟩)
        have q5 := blk_setCell q4 0 v
        refine ⟨rfl, ((hD.below hb2).ty hts ⟨by decide, by decide, by decide, by decide⟩).ty hte ⟨by decide, by decide, by decide, by decide⟩, ?_, v, hte.cells q5 (.inr (by decide)), fun e => by omega, fun _ => ?_⟩
        · exact ((((Ty.of_below hbs).trans ht).trans (Ty.of_below hb2)).new (hts.mono hpo (fun _ h => h))).new (hte.mono hbs.size (fun _ h => h))
        · exact ((hob.ty hts (fun _ _ => .inr (by decide))).ty hte (fun _ _ => .inr (by decide))).mono hsz
end Go.Proofs.YtocepcibcapfbaaGreat
/- The device: Read, whatever befalls it. -/
namespace Go.Proofs.YtocepcibcapfbaaGreat
set_option linter.unusedVariables false
set_option linter.unusedSimpArgs false
set_option linter.unusedSectionVars false
open Go.RowKit
variable [Inhabited AvT]

/-- How Read ends. -/
def RdF (B d np : Nat) (x : P.Dv) (n : Int) (w : World) (e : Ending) (w' : World) : Prop :=
  (¬ (0 ≤ n ∧ n < (np : Int)) ∧ e = .returned (.tuple #[.slice none 0 0, .int .i64 1]) ∧ Below w.heap.size w w') ∨
  ((0 ≤ n ∧ n < (np : Int)) ∧ DvIs B w' d np x.rdD ∧ Ty B devT w w' ∧ ∃ v, e = .returned (.tuple #[v, .int .i64 x.rdE]) ∧ (x.rdE = 7 → v = .slice none 0 0) ∧ (x.rdE = 0 → OB w' w.heap.size v (P.pgD x.img n.toNat)))
set_option maxRecDepth 100000 in
set_option maxHeartbeats 3200000 in
theorem dreadF (B d np : Nat) (x : P.Dv) (n : Int) (w : World) (h : DvIs B w d np x) (hop : x.ops < 1000000) :
    Calls Tryz.prog 37 #[.pointer (some ⟨d, 0, none⟩), .int .i64 n] w (RdF B d np x n w) := by
  have hmf : ∀ (fn : Fn) (first cap : Array Value) (w : World), (Instr.makeFunc fn first cap).run Tryz.prog w = .ok (.func fn first cap) w := fun _ _ _ _ => rfl
  have HM := Lib.hid (fun w (h : DvIs B w d np x) => dfmade_any B d np x w h)
  obtain ⟨b, hb⟩ : ∃ b, b = decide (0 ≤ n ∧ n < (np : Int)) := ⟨_, rfl⟩
  have HT := Lib.hid (fun w (h : DvIs B w d np x) => dfthere_any B d np x n b w h hb.symm)
  have HBB := Lib.hid hb
  obtain ⟨w0, hw0⟩ : ∃ w0, w0 = (w.alloc (.cells #[.pointer (some ⟨d, 0, none⟩)] 25)).alloc (.cells #[.int .i64 n] 3) := ⟨_, rfl⟩
  have hb0 : Below w.heap.size w w0 := by rw [hw0]; exact (((Below.refl _ w).alloc (Nat.le_refl _) _).alloc (by simp) _)
  have k0 : w0.heap[w.heap.size]? = some (.cells #[.pointer (some ⟨d, 0, none⟩)] 25 (0, 0)) := by rw [hw0]; exact alloc_old (alloc_new _ _ _ rfl) _
  have k1 : w0.heap[w.heap.size + 1]? = some (.cells #[.int .i64 n] 3 (0, 0)) := by rw [hw0]; exact alloc_new _ _ _ (by simp)
  have HZ := Lib.hid (show w0.heap.size = w.heap.size + 2 by rw [hw0]; simp)
  have H0 := Lib.hid (h.below hb0)
  have HB0 := Lib.hid hb0
  have K0 := Lib.hid k0
  have K1 := Lib.hid k1
  have HOP := Lib.hid hop
  have g0 := cell_blk k0
  have g1 := cell_blk k1
  clear h hb0 k0 k1 hop hb
  go_enter Tryz.func37, Tryz.ntmps37
  go_wp2_with fail
  rw [← hw0]
  clear hw0
  refine (HM.out _ H0.out).mono ?_
  rintro e w1 ⟨rfl, rfl⟩
  go_wp2_with fail
  refine (HT.out _ H0.out).mono ?_
  rintro e w1 ⟨rfl, rfl⟩
  rcases b with _ | _
  · have HF := Lib.hid (show RdF B d np x n w (.returned (.tuple #[.slice none 0 0, .int .i64 1])) w0 from .inl ⟨of_decide_eq_false HBB.out.symm, rfl, HB0.out⟩)
    go_wp2
    go_ret2
    exact HF.out
  have hr := of_decide_eq_true HBB.out.symm
  obtain ⟨m, rfl⟩ : ∃ m : Nat, n = (m : Int) := ⟨n.toNat, by omega⟩
  have HR := Lib.hid hr
  have hz := HZ.out
  clear hr
  go_wp2_with fail
  obtain ⟨w2, hw2⟩ : ∃ w2, w2 = w0.alloc (.cells #[.slice none 0 0] 38) := ⟨_, rfl⟩
  rw [← hw2]
  have hb2 : Below w0.heap.size w0 w2 := by rw [hw2]; exact (Below.refl _ w0).alloc (Nat.le_refl _) _
  have hb02 := below_then HB0.out hb2 HB0.out.size
  have k2 : w2.heap[w.heap.size + 2]? = some (.cells #[.slice none 0 0] 38 (0, 0)) := by rw [hw2]; exact alloc_new _ _ _ HZ.out.symm
  have k0' := (hb2.block _ (lt_of_block K0.out)).trans K0.out
  have k1' := (hb2.block _ (lt_of_block K1.out)).trans K1.out
  have H2 := H0.out.below hb2
  clear hw2 g0 g1
  refine (opread w w.heap.size (w.heap.size + 1) (w.heap.size + 2) m B d np x w2 H2 (by have := HR.out; omega) HOP.out hb02 k0' k1' k2 (by omega)).mono ?_
  rintro e w3 ⟨rfl, hD, hT, v, k3, hv7, hv0⟩
  have g3 := cell_blk k3
  have HE := Lib.hid (show RdF B d np x (m : Int) w (.returned (.tuple #[v, .int .i64 x.rdE])) w3 from .inr ⟨HR.out, hD, hT, v, rfl, hv7, fun h0 => by rw [show ((m : Int)).toNat = m from by omega]; exact (hv0 h0).mono hb02.size⟩)
  obtain ⟨E, hE⟩ : ∃ E, E = x.rdE := ⟨_, rfl⟩
  rw [← hE] at HE ⊢
  clear hD hT hv7 hv0 H2 k0' k1' k2 k3 hE hb2 hb02
  go_wp2
  go_ret2
  exact HE.out
end Go.Proofs.YtocepcibcapfbaaGreat
