/- The walk of chapter 11: Cut, all ways. -/
import Derived.Test.YtpdmhnppibfmkaaChF
namespace Go.Proofs.Ytpdmhnppibfmkaa
set_option linter.unusedVariables false
set_option linter.unusedSimpArgs false
open Go.RowKit Go.Shelf

theorem cut_set {w w1 : World} {E : Value} (h2 : w1.heap[w.heap.size + 1]? = some (.cells #[.slice none 0 0] 57 (0, 0))) (h3 : w1.heap[w.heap.size + 1 + 1]? = some (.cells #[.int .i64 0] 26 (0, 0))) (hb : Below w.heap.size w w1) :
    ((w1.setCell ⟨w.heap.size + 1, 0, none⟩ (.slice none 0 0)).setCell ⟨w.heap.size + 1 + 1, 0, none⟩ E).cell? ⟨w.heap.size + 1, 0, none⟩ = some (.slice none 0 0) ∧
    ((w1.setCell ⟨w.heap.size + 1, 0, none⟩ (.slice none 0 0)).setCell ⟨w.heap.size + 1 + 1, 0, none⟩ E).cell? ⟨w.heap.size + 1 + 1, 0, none⟩ = some E ∧
    Below w.heap.size w ((w1.setCell ⟨w.heap.size + 1, 0, none⟩ (.slice none 0 0)).setCell ⟨w.heap.size + 1 + 1, 0, none⟩ E) := by
  have g1 := grownBy_setCell' w1 (w.heap.size + 1) (.slice none 0 0)
  have a1 : (w1.setCell ⟨w.heap.size + 1, 0, none⟩ (.slice none 0 0)).heap[w.heap.size + 1]? = some (.cells #[.slice none 0 0] 57 (0, 0)) := blk_setCell h2 0 _
  have a2 : (w1.setCell ⟨w.heap.size + 1, 0, none⟩ (.slice none 0 0)).heap[w.heap.size + 1 + 1]? = some (.cells #[.int .i64 0] 26 (0, 0)) := (g1.block _ (lt_of_block h3) (by intro e; injection e with e; omega)).trans h3
  have b1 := hb.grown g1 hb.size (fun r e => by cases e; omega)
  generalize w1.setCell ⟨w.heap.size + 1, 0, none⟩ (.slice none 0 0) = X at *
  have g2 := grownBy_setCell' X (w.heap.size + 1 + 1) E
  exact ⟨cell_blk ((g2.block _ (lt_of_block a1) (by intro e; injection e with e; omega)).trans a1) 0, cell_blk (blk_setCell a2 0 E) 0, b1.grown g2 b1.size (fun r e => by cases e; omega)⟩
set_option maxRecDepth 100000 in
set_option maxHeartbeats 1600000 in
theorem cut_bad (a : Option Addr) (len cap : Nat) (b : List UInt8) (p : Option Addr) (m d : Nat) (l : List Int) (w : World) (hr : Rd w a len b) (hl : RI w p m l) (E : Int) (hE : P.fits b l = false ∧ E = 1 ∨ P.fits b l = true ∧ 1048576 < b.length ∧ E = 3) :
    Calls Try.prog 35 #[.slice a len cap, .slice p m d] w fun e w' => e = .returned (.tuple #[.slice none 0 0, .int .i64 E]) ∧ Below w.heap.size w w' := by
  have hbl := hr.1
  have HFIT := Lib.hid (fun w (hr : Rd w a len b) (hl : RI w p m l) => fit_any a len cap b p m d l w hr hl)
  have HR := Lib.hid hr
  have HL := Lib.hid hl
  have hb0 : Below w.heap.size w (((w.alloc (.cells #[.slice p m d] 61)).alloc (.cells #[.slice none 0 0] 57)).alloc (.cells #[.int .i64 0] 26)) := (((Below.refl _ w).alloc (Nat.le_refl _) _).alloc (by simp) _).alloc (by simp; omega) _
  have hk1 : (((w.alloc (.cells #[.slice p m d] 61)).alloc (.cells #[.slice none 0 0] 57)).alloc (.cells #[.int .i64 0] 26)).heap[w.heap.size + 1]? = some (.cells #[.slice none 0 0] 57 (0, 0)) := alloc_old (by have h := alloc_new (w.alloc (.cells #[.slice p m d] 61)) (.cells #[.slice none 0 0] 57) _ rfl; simpa using h) _
  have hk2 : (((w.alloc (.cells #[.slice p m d] 61)).alloc (.cells #[.slice none 0 0] 57)).alloc (.cells #[.int .i64 0] 26)).heap[w.heap.size + 1 + 1]? = some (.cells #[.int .i64 0] 26 (0, 0)) := by
    have h := alloc_new ((w.alloc (.cells #[.slice p m d] 61)).alloc (.cells #[.slice none 0 0] 57)) (.cells #[.int .i64 0] 26) _ rfl
    simpa using h
  have HK1 := Lib.hid hk1
  have HK2 := Lib.hid hk2
  generalize hF : P.fits b l = F at *
  clear hr hl hF hk1 hk2
  go_enter Try.func35, Try.ntmps35
  go_wp2_with fail
  refine (HFIT.out _ (HR.out.below hb0) (HL.out.below hb0)).mono ?_
  rintro e w1 ⟨rfl, hb1⟩
  have hb1' : Below w.heap.size w w1 := below_then hb0 hb1 hb0.size
  have hr1 := (hb1.block _ (lt_of_block HK1.out)).trans HK1.out
  have hr2 := (hb1.block _ (lt_of_block HK2.out)).trans HK2.out
  have c1 := cell_blk hr1
  have c2 := cell_blk hr2
  have f1 := free_blk hr1
  have f2 := free_blk hr2
  obtain ⟨k1, k2, k3⟩ := cut_set (E := .int .i64 E) hr1 hr2 hb1'
  have K1 := Lib.hid k1
  have K2 := Lib.hid k2
  have K3 := Lib.hid k3
  clear k1 k2 k3 hr1 hr2 hb1 hb0
  rcases hE with ⟨rfl, rfl⟩ | ⟨rfl, hgt, rfl⟩
  · go_wp2
    have k1 := K1.out
    have k2 := K2.out
    exact bodyPost_ret (v := .tuple #[.slice none 0 0, .int .i64 1]) (by simp [results, Try.results35, go_sem, k1, k2]) rfl ⟨rfl, K3.out⟩
  · have d1 : (1048576 : Int) < (len : Int) := by omega
    clear hgt
    go_wp2
    have k1 := K1.out
    have k2 := K2.out
    exact bodyPost_ret (v := .tuple #[.slice none 0 0, .int .i64 3]) (by simp [results, Try.results35, go_sem, k1, k2]) rfl ⟨rfl, K3.out⟩
theorem cut_fun (a : Option Addr) (len cap : Nat) (b : List UInt8) (p : Option Addr) (m d : Nat) (l : List Int) (w : World) (hr : Rd w a len b) (hc : len ≤ cap) (hl : RI w p m l) :
    Calls Try.prog 35 #[.slice a len cap, .slice p m d] w fun e w' => ∃ v, e = .returned (.tuple #[v, .int .i64 (P.cutErr b l)]) ∧ OL w' w.heap.size v (P.cutL b l) ∧ Below w.heap.size w w' := by
  rcases hf : P.fits b l with _ | _
  · have e1 : P.cutErr b l = 1 := by unfold P.cutErr; rw [hf]; rfl
    have e2 : P.cutL b l = [] := by unfold P.cutL; rw [if_neg (by omega)]
    rw [e1, e2]
    exact (cut_bad a len cap b p m d l w hr hl 1 (.inl ⟨hf, rfl⟩)).mono fun e w' ⟨h1, h2⟩ => ⟨_, h1, OL.nil _ _, h2⟩
  · by_cases hg : 1048576 < b.length
    · have e1 : P.cutErr b l = 3 := by unfold P.cutErr; rw [hf, if_pos rfl, if_pos hg]
      have e2 : P.cutL b l = [] := by unfold P.cutL; rw [if_neg (by omega)]
      rw [e1, e2]
      exact (cut_bad a len cap b p m d l w hr hl 3 (.inr ⟨hf, hg, rfl⟩)).mono fun e w' ⟨h1, h2⟩ => ⟨_, h1, OL.nil _ _, h2⟩
    · have e1 : P.cutErr b l = 0 := by unfold P.cutErr; rw [hf, if_pos rfl, if_neg hg]
      have e2 : P.cutL b l = P.cutTo b l l.length := by unfold P.cutL; rw [if_pos e1]
      rw [e1, e2]
      exact cut_loop a len cap b p m d l w hr hc hl hf (by omega)
end Go.Proofs.Ytpdmhnppibfmkaa
