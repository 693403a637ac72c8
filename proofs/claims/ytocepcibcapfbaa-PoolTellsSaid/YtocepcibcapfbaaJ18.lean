/- The device: Read, whatever befalls it: through op. -/
import Derived.Test.YtocepcibcapfbaaJ17
namespace Go.Proofs.Ytocepcibcapfbaa
set_option linter.unusedVariables false
set_option linter.unusedSimpArgs false
open Go.RowKit

theorem OB.ty {C B : Nat} {T : Option TypeId → Prop} {w w' : World} {v : Value} {l : List UInt8} (h : OB w B v l) (hw : Ty C T w w') (ht : ∀ k, v.ownBlock = some k → k < C ∨ ¬ T (some 5)) : OB w' B v l := OV.ty (t := 5) (s := 1) (n := l.length) (l := bvs l) h hw ht
theorem enter_of {P : Program} {F : FuncId} {fn : Func} (hf : P.funcs[F]? = some fn) (hn : (fn.name == "runtime.NumGoroutine") = false) (hb : fn.body.isNone = false) (args : Array Value) (w : World) : (callFunc F args).run P w = .ok (.enter F args) w := by
  have hn' : ¬ fn.name = "runtime.NumGoroutine" := by simpa using hn
  have hb' : ¬ fn.body = none := by intro e; rw [e] at hb; cases hb
  simp [callFunc, go_sem, hf, hn', hb']
theorem nothing_any (w : World) : Calls Try.prog 34 #[] w fun e w' => e = .returned (.tuple #[]) ∧ w = w' := by
  go_enter Try.func34, Try.ntmps34
  go_wp2
  simp [bodyPost, results, Try.results34, go_sem]
theorem nothing_en (args : Array Value) (w : World) : (callFunc 34 args).run Try.prog w = .ok (.enter 34 args) w :=
  enter_of Try.func34 (by kernel_rfl) (by kernel_rfl) args w
theorem read1_en (args : Array Value) (w : World) : (callFunc 33 args).run Try.prog w = .ok (.enter 33 args) w :=
  enter_of Try.func33 (by kernel_rfl) (by kernel_rfl) args w
theorem rdE_dead {x : P.Dv} (h : x.dead = true) : x.rdE = 7 ∧ x.rdD = x := by
  unfold P.Dv.rdE P.Dv.rdD
  rw [if_pos (.inl h), if_pos h]
  exact ⟨rfl, rfl⟩
theorem rdE_die {x : P.Dv} (h : x.dead = false) (hf : x.fuse = 0) : x.rdE = 7 ∧ x.rdD = x.op := by
  have ho : x.out = 3 := by unfold P.Dv.out; rw [if_pos hf]
  unfold P.Dv.rdE P.Dv.rdD
  rw [if_pos (.inr (.inl ho)), if_neg (by rw [h]; simp)]
  exact ⟨rfl, rfl⟩
theorem rdE_do {x : P.Dv} (h : x.dead = false) (hf : x.fuse ≠ 0) : x.out < 3 ∧ x.rdE = (if x.out = 1 then 7 else 0) ∧ x.rdD = x.op := by
  have ho : x.out < 3 := by unfold P.Dv.out; rw [if_neg hf]; exact Nat.mod_lt _ (by omega)
  unfold P.Dv.rdE P.Dv.rdD
  rw [if_neg (show ¬ x.dead = true by rw [h]; simp)]
  refine ⟨ho, ?_, rfl⟩
  by_cases h1 : x.out = 1
  · rw [if_pos (.inr (.inr h1)), if_pos h1]
  · rw [if_neg (by rw [h]; simp; omega), if_neg h1]
theorem opread (ws : World) (pd pp po : Nat) (n : Nat) (B d np : Nat) (x : P.Dv) (w : World) (h : DvIs B w d np x) (hn : n < np) (hop : x.ops < 1000000) (hbs : Below ws.heap.size ws w)
    (h1 : w.heap[pd]? = some (.cells #[.pointer (some ⟨d, 0, none⟩)] 23 (0, 0))) (h2 : w.heap[pp]? = some (.cells #[.int .i64 (n : Int)] 3 (0, 0))) (h3 : w.heap[po]? = some (.cells #[.slice none 0 0] 31 (0, 0))) (hpo : ws.heap.size ≤ po) :
    Calls Try.prog 32 #[.pointer (some ⟨d, 0, none⟩), .func (.func 33) #[] #[.pointer (some ⟨pd, 0, none⟩), .pointer (some ⟨pp, 0, none⟩), .pointer (some ⟨po, 0, none⟩)], .func (.func 34) #[] #[]] w fun e w' =>
      e = .returned (.int .i64 x.rdE) ∧ DvIs B w' d np x.rdD ∧ Ty B devT ws w' ∧ ∃ v, w'.heap[po]? = some (.cells #[v] 31 (0, 0)) ∧ (x.rdE = 7 → v = .slice none 0 0) ∧ (x.rdE = 0 → OB w' w.heap.size v (P.pgD x.img n)) := by
  have hnd : ¬ devT (some 31) := by unfold devT; decide
  rcases hdead : x.dead with _ | _
  rotate_left
  · rw [(rdE_dead hdead).1, (rdE_dead hdead).2]
    refine (opf_dead B d np x _ _ _ w h hdead ⟨_, _, rfl⟩).mono ?_
    rintro e w' ⟨rfl, hb⟩
    exact ⟨rfl, h.below hb, (Ty.of_below hbs).trans (Ty.of_below hb), _, (hb.block po (lt_of_block h3)).trans h3, fun _ => rfl, fun e => by omega⟩
  by_cases hf : x.fuse = 0
  · rw [(rdE_die hdead hf).1, (rdE_die hdead hf).2]
    refine (opf_die B d np x _ _ _ _ (fun wx w' => wx = w') w h (fun _ => False) id hdead hf hop nothing_en (fun wx _ _ => (nothing_any wx).mono (fun e w' hh => ⟨⟨hh.2, hh.2 ▸ Ty.refl _ _ _⟩, hh.1⟩))).mono ?_
    rintro e w' ⟨rfl, wx, ht, hD, -, rfl⟩
    exact ⟨rfl, hD, (Ty.of_below hbs).trans ht, _, ht.cells h3 (.inr hnd), fun _ => rfl, fun e => by omega⟩
  · obtain ⟨o1, o2, o3⟩ := rdE_do hdead hf
    rw [o2, o3]
    have hpl := lt_of_block h3
    refine (opf_any B d np x _ _ _ (Rd1 po x.out (P.pgD x.op.img n)) w h (fun t => t = some 31) (by decide) hdead hf hop ⟨_, _, rfl⟩ read1_en (fun wx ht hs hD => ?_)).mono ?_
    · have q1 := ht.cells h1 (.inr (by unfold devT; decide))
      have q2 := ht.cells h2 (.inr (by unfold devT; decide))
      have q3 := ht.cells h3 (.inr hnd)
      have hdt := hD.tag.1
      refine (read1F x.out o1 pd pp po n B d np x.op wx hD hn (cell_blk q1 0) (cell_blk q2 0) q3 ⟨fun e => by rw [e] at q3; rw [tagA_cells q3] at hdt; simp at hdt, fun e => by rw [e, q1] at q3; simp at q3, fun e => by rw [e, q2] at q3; simp at q3⟩).mono ?_
      intro e w1 hR
      refine ⟨hR, ?_, ?_⟩
      · rcases hR with ⟨-, rfl, -⟩ | ⟨-, v, w2, rfl, -⟩
        · exact ⟨_, rfl⟩
        · exact ⟨_, rfl⟩
      · rcases hR with ⟨-, -, rfl⟩ | ⟨-, v, w2, -, rfl, -, hb2⟩
        · exact Ty.refl _ _ _
        · exact (Ty.of_below hb2).setCell _ _ (.inr ⟨Nat.zero_le _, _, tagA_cells ((hb2.block po (lt_of_block q3)).trans q3), rfl⟩)
    · rintro e w' ⟨wx, w1, k, ht, hD, hR, rfl, hte, hsz⟩
      have q3 := ht.cells h3 (.inr hnd)
      have himg : x.op.img = x.img := by unfold P.Dv.op; split <;> rfl
      rw [himg] at hR
      rcases hR with ⟨h1c, e1, rfl⟩ | ⟨h1c, v, w2, e1, rfl, hob, hb2⟩
      · cases e1
        rw [if_pos h1c]
        exact ⟨rfl, hD.ty hte ⟨by decide, by decide, by decide, by decide⟩, ((Ty.of_below hbs).trans ht).new (hte.mono hbs.size (fun _ h => h)), _, hte.cells q3 (.inr (by decide)), fun _ => rfl, fun e => by omega⟩
      · cases e1
        rw [if_neg h1c]
        have q4 := (hb2.block po (lt_of_block q3)).trans q3
        have hts : Ty po (fun t => t = some 31) w2 (w2.setCell ⟨po, 0, none⟩ v) := (Ty.refl _ _ _).setCell _ _ (.inr ⟨Nat.le_refl _, _, tagA_cells q4, rfl⟩)
        have q5 := blk_setCell q4 0 v
        refine ⟨rfl, ((hD.below hb2).ty hts ⟨by decide, by decide, by decide, by decide⟩).ty hte ⟨by decide, by decide, by decide, by decide⟩, ?_, v, hte.cells q5 (.inr (by decide)), fun e => by omega, fun _ => ?_⟩
        · exact ((((Ty.of_below hbs).trans ht).trans (Ty.of_below hb2)).new (hts.mono hpo (fun _ h => h))).new (hte.mono hbs.size (fun _ h => h))
        · exact ((hob.ty hts (fun _ _ => .inr (by decide))).ty hte (fun _ _ => .inr (by decide))).mono hsz
end Go.Proofs.Ytocepcibcapfbaa
