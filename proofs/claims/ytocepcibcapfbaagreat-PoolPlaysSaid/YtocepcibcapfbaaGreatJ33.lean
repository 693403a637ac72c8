/- The pool: Unpin, Forget. -/
import Derived.Test.YtocepcibcapfbaaGreatJ32
namespace Go.Proofs.YtocepcibcapfbaaGreat
set_option linter.unusedVariables false
set_option linter.unusedSimpArgs false
set_option linter.unusedSectionVars false
open Go.RowKit
variable [Inhabited AvT]
variable {B o c : Nat} {w : World} {p d np N : Nat} {x : P.Po}

theorem unpin1_en (args : Array Value) (w : World) : (callFunc 52 args).run Tryz.prog w = .ok (.enter 52 args) w :=
  enter_of Tryz.func52 (by kernel_rfl) (by kernel_rfl) args w
/-- A cell of a block that was made. -/
theorem box_at {w w' : World} {k : Nat} {v : Value} {t : TypeId} (h : w.heap[k]? = some (.cells #[v] t (0, 0))) (hb : Below w.heap.size w w') : w'.cell? ⟨k, 0, none⟩ = some v := by
  rw [cell_blk ((hb.block k (lt_of_block h)).trans h)]
  rfl
theorem punpin_any (h : PoIs B o c w p d np N x) (n : Int) (hn : inI n) : Calls Tryz.prog 13 #[.pointer (some ⟨p, 0, none⟩), .int .i64 n] w (OpE B o c p d np N (x.unP n) (x.unE n) w) := by
  have hmf : ∀ (fn : Fn) (first cap : Array Value) (w : World), (Instr.makeFunc fn first cap).run Tryz.prog w = .ok (.func fn first cap) w := fun _ _ _ _ => rfl
  obtain ⟨wb, hwb⟩ : ∃ wb, wb = (w.alloc (.cells #[.pointer (some ⟨p, 0, none⟩)] 32)).alloc (.cells #[.int .i64 n] 3) := ⟨_, rfl⟩
  have hb : Below w.heap.size w wb := by rw [hwb]; exact ((Below.refl _ w).alloc (Nat.le_refl _) _).alloc (by simp) _
  have k0 : wb.heap[w.heap.size]? = some (.cells #[.pointer (some ⟨p, 0, none⟩)] 32 (0, 0)) := by rw [hwb]; exact alloc_old (alloc_new _ _ _ rfl) _
  have k1 : wb.heap[w.heap.size + 1]? = some (.cells #[.int .i64 n] 3 (0, 0)) := by rw [hwb]; exact alloc_new _ _ _ (by simp)
  have HT := Lib.hid (tryop (h.below hb) _ #[.pointer (some ⟨w.heap.size, 0, none⟩), .pointer (some ⟨w.heap.size + 1, 0, none⟩)] unpin1_en (fun w1 hw1 hP => unpin1_any hP n hn w.heap.size (w.heap.size + 1) (box_at k0 hw1) (box_at k1 hw1)))
  have HB := Lib.hid hb
  clear h hb k0 k1
  go_enter Tryz.func13, Tryz.ntmps13
  go_wp2_with fail
  rw [← hwb]
  clear hwb
  refine HT.out.mono ?_
  rintro e w2 ⟨rfl, hV⟩
  have HF := Lib.hid (show OpE B o c p d np N (x.unP n) (x.unE n) w (.returned (.int .i64 (x.unE n))) w2 from ⟨rfl, hV.pre HB.out⟩)
  generalize x.unE n = E at *
  clear hV
  go_wp2
  go_ret
  exact HF.out
/-- How Forget ends. -/
def FgE (B o c : Nat) (p d np N : Nat) (x' : P.Po) (b : Bool) (w : World) (e : Ending) (w' : World) : Prop := e = .returned (.bool b) ∧ PoV B o c w p d np N x' w'
set_option maxRecDepth 100000 in
set_option maxHeartbeats 3200000 in
theorem pforget_any (h : PoIs B o c w p d np N x) (n : Int) (hn : inI n) : Calls Tryz.prog 18 #[.pointer (some ⟨p, 0, none⟩), .int .i64 n] w (FgE B o c p d np N (x.forP n) (x.forB n) w) := by
  have H := Lib.hid h
  obtain ⟨⟨mb, nn, F, vo, V, hs⟩, hok⟩ := h
  have HM := Lib.hid (pmade_any hs)
  have g := cell_blk hs.pool
  unfold poolC at g
  by_cases hno : n < 0 ∨ P.at? x.l n.toNat = none
  · have hlk := hs.look0 n hn hno
    have he : x.forB n = false := by
      unfold P.Po.forB
      rcases hno with h | h
      · rw [decide_eq_false (by omega)]; rfl
      · rw [h]; simp
    have HF := Lib.hid (show FgE B o c p d np N (x.forP n) (x.forB n) w (.returned (.bool false)) w from by
      unfold P.Po.forP
      rw [he]
      exact ⟨rfl, H.out.self (Below.refl _ _)⟩)
    clear hs hok hno he hn
    go_enter Tryz.func18, Tryz.ntmps18
    go_wp2_with (go_at_call 54; refine HM.out.mono ?_; rintro e w1 ⟨rfl, rfl⟩)
    go_ret
    exact HF.out
  · have h0 : 0 ≤ n := by rcases Int.lt_or_le n 0 with h | h; exact absurd (.inl h) hno; exact h
    obtain ⟨k, rfl⟩ : ∃ k : Nat, n = (k : Int) := ⟨n.toNat, by omega⟩
    rw [Int.toNat_natCast] at hno
    obtain ⟨f, hf⟩ : ∃ f, P.at? x.l k = some f := by
      rcases hq : P.at? x.l k with _ | f
      · exact absurd (.inr hq) hno
      · exact ⟨f, rfl⟩
    obtain ⟨hfp, ⟨a, m, cp, hfb, hrb, hBf, hbl⟩, hk, hpc⟩ := hs.fr k f hf
    have hlk := hs.look1 k hk f hf
    have gf := cell_blk hfb
    unfold frC at gf
    have hfb : x.forB (k : Int) = (f.pins == 0) := by
      unfold P.Po.forB
      rw [Int.toNat_natCast, hf, decide_eq_true (by omega)]
      simp
    by_cases hz : f.pins = 0
    · have he : x.forB (k : Int) = true := by rw [hfb, hz]; rfl
      have hok' := P.for_ok hok (k : Int)
      have hfp2 : x.forP (k : Int) = ⟨x.d, P.off x.l k⟩ := by unfold P.Po.forP; rw [he, Int.toNat_natCast]; rfl
      have HOK := Lib.hid hok'
      have HD := Lib.hid (pdrop_any hs k hk)
      have HE := Lib.hid (And.intro he hfp2)
      have HOF := Lib.hid (P.off_map x.l k)
      rw [hz] at gf
      clear hs hok hno he hn hf hrb hpc hfp hfb hz hok' hfp2
      go_enter Tryz.func18, Tryz.ntmps18
      go_wp2_with (go_at_call 54; refine HM.out.mono ?_; rintro e w1 ⟨rfl, rfl⟩)
      refine HD.out.mono ?_
      rintro e w1 ⟨rfl, hW⟩
      have HF := Lib.hid (show FgE B o c p d np N (x.forP (k : Int)) (x.forB (k : Int)) w (.returned (.bool true)) w1 from by
        have hok := HOK.out
        rw [HE.out.2] at hok
        rw [HE.out.1, HE.out.2]
        exact ⟨rfl, PoV.of hW (mno_off _ _) HOF.out.symm rfl hok⟩)
      clear hW
      go_wp2
      go_ret
      exact HF.out
    · have he : x.forB (k : Int) = false := by rw [hfb]; simpa using hz
      have HF := Lib.hid (show FgE B o c p d np N (x.forP (k : Int)) (x.forB (k : Int)) w (.returned (.bool false)) w from by
        unfold P.Po.forP
        rw [he]
        exact ⟨rfl, H.out.self (Below.refl _ _)⟩)
      have i2 : (0 : Int) < (f.pins : Int) := by omega
      clear hs hok hno he hn hf hrb hpc hfp hfb hz
      go_enter Tryz.func18, Tryz.ntmps18
      go_wp2_with (go_at_call 54; refine HM.out.mono ?_; rintro e w1 ⟨rfl, rfl⟩)
      go_ret
      exact HF.out
end Go.Proofs.YtocepcibcapfbaaGreat
