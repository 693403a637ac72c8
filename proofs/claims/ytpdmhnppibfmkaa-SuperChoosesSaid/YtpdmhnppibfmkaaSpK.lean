/- The walk of chapter 7: Decode, where the page does not open. -/
import Derived.Test.YtpdmhnppibfmkaaSpJ
namespace Go.Proofs.Ytpdmhnppibfmkaa
set_option linter.unusedVariables false
set_option linter.unusedSimpArgs false
open Go.RowKit

set_option maxRecDepth 100000 in
set_option maxHeartbeats 1600000 in
theorem dec_open (a : Option Addr) (len cap : Nat) (l : List UInt8) (w : World) (hr : Rd w a len l) (hc : len ≤ cap) (he : P.openErr l ≠ 0) :
    Calls Try.prog 20 #[.slice a len cap] w fun e w' => e = .returned (.tuple #[zsup, .int .i64 (P.openErr l)]) ∧ Below w.heap.size w w' := by
  have c1 : (P.openErr l != 0) = true := by simpa using he
  have HO := Lib.hid (fun w1 (h : Rd w1 a len l) => open_fun a len cap l w1 h hc)
  have HR := Lib.hid hr
  obtain ⟨E, hE⟩ : ∃ E, E = P.openErr l := ⟨_, rfl⟩
  rw [← hE] at c1 ⊢
  have HE := Lib.hid hE
  clear hr he hE
  unfold zsup
  go_enter Try.func20, Try.ntmps20
  go_wp2_with fail
  refine (HO.out _ (HR.out.below ((Below.refl _ w).alloc (Nat.le_refl _) _))).mono ?_
  rintro e w1 ⟨v, rfl, hown, hb1⟩
  rw [← HE.out]
  have hb := below_alloc1 hb1
  have hB1 := made_below hb1
  have hlt : w.heap.size < w1.heap.size := lt_of_block hB1
  obtain ⟨av, pv, hv, -, -, -, -⟩ := hown.form
  subst hv
  have HB1 := Lib.hid hB1
  clear hown hb1 hB1
  have cl := cell_blk HB1.out
  have fz := free_blk HB1.out
  go_wp2
  generalize hW2 : World.alloc _ _ = W2
  have hb2 : Below w.heap.size w W2 := by rw [← hW2]; exact set8 hb _ _ _ _ _ _ _ _ _
  have cl2 := cell_blk (show W2.heap[w.heap.size]? = _ by rw [← hW2]; exact alloc_old (blk8 HB1.out _ _ _ _ _ _ _ _) _)
  exact bodyPost_ret (v := .tuple #[zsup, .int .i64 E]) (by simp [results, Try.results20, zsup, go_sem, cl2]) rfl ⟨rfl, hb2⟩
end Go.Proofs.Ytpdmhnppibfmkaa
