/- The pool: Put, Pin. -/
import Derived.Test.YtocepcibcapfbaaGreatJ36
namespace Go.Proofs.YtocepcibcapfbaaGreat
set_option linter.unusedVariables false
set_option linter.unusedSimpArgs false
set_option linter.unusedSectionVars false
open Go.RowKit
variable [Inhabited AvT]
variable {B o c : Nat} {w : World} {p d np N : Nat} {x : P.Po}

theorem put1_en (args : Array Value) (w : World) : (callFunc 53 args).run Tryz.prog w = .ok (.enter 53 args) w :=
  enter_of Tryz.func53 (by kernel_rfl) (by kernel_rfl) args w
theorem pin1_en (args : Array Value) (w : World) : (callFunc 40 args).run Tryz.prog w = .ok (.enter 40 args) w :=
  enter_of Tryz.func40 (by kernel_rfl) (by kernel_rfl) args w
theorem pput_any (h : PoIs B o c w p d np N x) (n : Int) (hn : inI n) (a : Option Addr) (m cp : Nat) (bs : List UInt8) (hr : RB w a m bs) (hm : m ≤ 1048576) (hop : x.d.ops < 1000000) (hc : c < 1000000) :
    Calls Tryz.prog 16 #[.pointer (some ⟨p, 0, none⟩), .int .i64 n, .slice a m cp] w (OpE B o (c + 1) p d np N (x.putP N np n bs) (x.putE N np n bs) w) := by
  have hmf : ∀ (fn : Fn) (first cap : Array Value) (w : World), (Instr.makeFunc fn first cap).run Tryz.prog w = .ok (.func fn first cap) w := fun _ _ _ _ => rfl
  obtain ⟨wb, hwb⟩ : ∃ wb, wb = ((w.alloc (.cells #[.pointer (some ⟨p, 0, none⟩)] 32)).alloc (.cells #[.int .i64 n] 3)).alloc (.cells #[.slice a m cp] 38) := ⟨_, rfl⟩
  have hb : Below w.heap.size w wb := by rw [hwb]; exact (((Below.refl _ w).alloc (Nat.le_refl _) _).alloc (by simp) _).alloc (by simp; omega) _
  have k0 : wb.heap[w.heap.size]? = some (.cells #[.pointer (some ⟨p, 0, none⟩)] 32 (0, 0)) := by rw [hwb]; exact alloc_old (alloc_old (alloc_new _ _ _ rfl) _) _
  have k1 : wb.heap[w.heap.size + 1]? = some (.cells #[.int .i64 n] 3 (0, 0)) := by rw [hwb]; exact alloc_old (alloc_new _ _ _ (by simp)) _
  have k2 : wb.heap[w.heap.size + 2]? = some (.cells #[.slice a m cp] 38 (0, 0)) := by rw [hwb]; exact alloc_new _ _ _ (by simp)
  have hbo : w.heap.size + 1 ≠ o := by have := h.lt; omega
  have HT := Lib.hid (tryop (h.below hb) _ #[.pointer (some ⟨w.heap.size, 0, none⟩), .pointer (some ⟨w.heap.size + 1, 0, none⟩), .pointer (some ⟨w.heap.size + 2, 0, none⟩)] put1_en (fun w1 hw1 hP => put1_any hP n hn a m cp bs ((hr.below hb).below hw1) hm hop hc w.heap.size (w.heap.size + 1) (w.heap.size + 2) ((hw1.block _ (lt_of_block k0)).trans k0) ((hw1.block _ (lt_of_block k1)).trans k1) ((hw1.block _ (lt_of_block k2)).trans k2) hbo))
  have HB := Lib.hid hb
  clear h hb k0 k1 k2 hr hn hop hc hm hbo
  go_enter Tryz.func16, Tryz.ntmps16
  go_wp2_with fail
  rw [← hwb]
  clear hwb
  refine HT.out.mono ?_
  rintro e w2 ⟨rfl, hV⟩
  have HF := Lib.hid (show OpE B o (c + 1) p d np N (x.putP N np n bs) (x.putE N np n bs) w (.returned (.int .i64 (x.putE N np n bs))) w2 from ⟨rfl, hV.pre HB.out⟩)
  generalize x.putE N np n bs = E at *
  clear hV
  go_wp2
  go_ret
  exact HF.out
/-- How Pin ends. -/
def PinE (B o c : Nat) (p d np N : Nat) (x' : P.Po) (E : Int) (bs : List UInt8) (w : World) (e : Ending) (w' : World) : Prop :=
  PoV B o c w p d np N x' w' ∧ ∃ v, e = .returned (.tuple #[v, .int .i64 E]) ∧ (E = 0 → OB w' w.heap.size v bs) ∧ (E ≠ 0 → v = .slice none 0 0)
theorem bytes_nopo : NoPo (fun t => t = some 38) := ⟨⟨by decide, by decide, by decide, by decide⟩, by decide, by decide, by decide, by decide⟩
/-- What Pin's closure leaves, from where it was called. -/
def PnR (B o c : Nat) (p d np N : Nat) (x' : P.Po) (E : Int) (bs : List UInt8) (bo : Nat) (w : World) (k : Int) (w2 : World) : Prop := k = E ∧ PoV B o c w p d np N x' w2 ∧ ∃ v, w2.heap[bo]? = some (.cells #[v] 38 (0, 0)) ∧ (E = 0 → OB w2 w.heap.size v bs) ∧ (E ≠ 0 → v = .slice none 0 0)
set_option maxRecDepth 100000 in
set_option maxHeartbeats 3200000 in
theorem ppin_any (h : PoIs B o c w p d np N x) (n : Int) (hn : inI n) (hop : x.d.ops < 999000) (hc : c < 1000000) :
    Calls Tryz.prog 10 #[.pointer (some ⟨p, 0, none⟩), .int .i64 n] w (PinE B o (c + 1) p d np N (x.pinP N np n) (x.pinE N np n) (x.pinB N np n) w) := by
  have hmf : ∀ (fn : Fn) (first cap : Array Value) (w : World), (Instr.makeFunc fn first cap).run Tryz.prog w = .ok (.func fn first cap) w := fun _ _ _ _ => rfl
  obtain ⟨wb, hwb⟩ : ∃ wb, wb = ((w.alloc (.cells #[.pointer (some ⟨p, 0, none⟩)] 32)).alloc (.cells #[.int .i64 n] 3)).alloc (.cells #[.slice none 0 0] 38) := ⟨_, rfl⟩
  have hb : Below w.heap.size w wb := by rw [hwb]; exact (((Below.refl _ w).alloc (Nat.le_refl _) _).alloc (by simp) _).alloc (by simp; omega) _
  have k0 : wb.heap[w.heap.size]? = some (.cells #[.pointer (some ⟨p, 0, none⟩)] 32 (0, 0)) := by rw [hwb]; exact alloc_old (alloc_old (alloc_new _ _ _ rfl) _) _
  have k1 : wb.heap[w.heap.size + 1]? = some (.cells #[.int .i64 n] 3 (0, 0)) := by rw [hwb]; exact alloc_old (alloc_new _ _ _ (by simp)) _
  have k2 : wb.heap[w.heap.size + 2]? = some (.cells #[.slice none 0 0] 38 (0, 0)) := by rw [hwb]; exact alloc_new _ _ _ (by simp)
  have hz : wb.heap.size = w.heap.size + 3 := by rw [hwb]; simp
  have hlt := h.lt
  have hbo : w.heap.size + 1 ≠ o := by omega
  obtain ⟨w1, hw1⟩ : ∃ w1, w1 = wb.alloc (.cells #[.int .i64 0] 26) := ⟨_, rfl⟩
  have hb1 : Below wb.heap.size wb w1 := by rw [hw1]; exact (Below.refl _ wb).alloc (Nat.le_refl _) _
  have ke : w1.heap[wb.heap.size]? = some (.cells #[.int .i64 0] 26 (0, 0)) := by rw [hw1]; exact alloc_new _ _ _ rfl
  have hb01 := below_then hb hb1 hb.size
  have q2 := (hb1.block _ (lt_of_block k2)).trans k2
  have hP1 := (h.below hb).below hb1
  have hpin := pin1_any hP1 n hn hop hc w.heap.size (w.heap.size + 1) (w.heap.size + 2) (.slice none 0 0) ((hb1.block _ (lt_of_block k0)).trans k0) ((hb1.block _ (lt_of_block k1)).trans k1) q2 hbo
  have HT := Lib.hid (tries_any p _ #[.pointer (some ⟨w.heap.size, 0, none⟩), .pointer (some ⟨w.heap.size + 1, 0, none⟩), .pointer (some ⟨w.heap.size + 2, 0, none⟩)] (PnR B o (c + 1) p d np N (x.pinP N np n) (x.pinE N np n) (x.pinB N np n) (w.heap.size + 2) w) wb (fun W hW => by
    obtain ⟨⟨mb, n, F, vo, V, hs⟩, -⟩ := (h.below hb).below hW
    exact pmade_any hs) pin1_en (by
    rw [← hw1]
    refine hpin.mono ?_
    rintro e w2 (⟨he, rfl, hV⟩ | ⟨he, rfl, w3, v, hV, rfl, hob⟩)
    · obtain ⟨o', ho', hp', ht'⟩ := hV
      exact ⟨ht'.cells ke (by omega) (.inr (by unfold poT devT; decide)), .inr ⟨_, rfl, rfl, PoV.pre hb01 ⟨o', ho', hp', ht'⟩, _, ht'.cells q2 (by omega) (.inr (by unfold poT devT; decide)), fun h => absurd h he, fun _ => rfl⟩⟩
    · have hV2 := hV
      obtain ⟨o', ho', hp', ht'⟩ := hV
      have q3 := ht'.cells q2 (by omega) (.inr (by unfold poT devT; decide))
      have ke3 := ht'.cells ke (by omega) (.inr (by unfold poT devT; decide))
      have q4 := blk_setCell q3 0 v
      have hne : ∀ k, k ≠ w.heap.size + 2 → (w3.setCell ⟨w.heap.size + 2, 0, none⟩ v).heap[k]? = w3.heap[k]? := fun k hk => Below.heap_setCell _ _ _ _ hk
      have hty : Ty (w.heap.size + 2) (fun t => t = some 38) w3 (w3.setCell ⟨w.heap.size + 2, 0, none⟩ v) := (Ty.refl _ _ _).setCell _ _ (.inr ⟨Nat.le_refl _, _, tagA_cells q3, rfl⟩)
      exact ⟨(hne _ (by omega)).trans ke3, .inl ⟨rfl, he.symm, (PoV.pre hb01 hV2).own q3 (by omega) bytes_nopo rfl, v, q4, fun _ => (hob.ty hty (fun _ _ => .inr (by decide))).mono hb01.size, fun h => absurd he h⟩⟩))
  have HB := Lib.hid hb
  have HZ := Lib.hid hz
  clear h hb k0 k1 k2 hn hop hc hbo hlt hz hw1 hb1 ke hb01 q2 hP1 hpin
  go_enter Tryz.func10, Tryz.ntmps10
  go_wp2_with fail
  rw [← hwb]
  clear hwb
  refine HT.out.mono ?_
  rintro e w' ⟨k, w2, rfl, ⟨rfl, hV, v, kv, h0, h1⟩, hk, rfl⟩
  have hty : Ty wb.heap.size (fun t => t = some 26) w2 (w2.setCell ⟨wb.heap.size, 0, none⟩ (.int .i64 (x.pinE N np n))) := (Ty.refl _ _ _).setCell _ _ (.inr ⟨Nat.le_refl _, _, tagA_cells hk, rfl⟩)
  have hV2 := hV.own (i := 0) (u := .int .i64 (x.pinE N np n)) hk (by have := HZ.out; omega) errno_nopo rfl
  have kv2 := hty.cells kv (.inr (by decide))
  have gv := cell_blk kv2
  have fv := free_blk kv2
  have hty2 : Ty (w.heap.size + 2) (fun t => t = some 38) (w2.setCell ⟨wb.heap.size, 0, none⟩ (.int .i64 (x.pinE N np n))) ((w2.setCell ⟨wb.heap.size, 0, none⟩ (.int .i64 (x.pinE N np n))).setCell ⟨w.heap.size + 2, 0, none⟩ v) := (Ty.refl _ _ _).setCell _ _ (.inr ⟨Nat.le_refl _, _, tagA_cells kv2, rfl⟩)
  have HF := Lib.hid (show PinE B o (c + 1) p d np N (x.pinP N np n) (x.pinE N np n) (x.pinB N np n) w (.returned (.tuple #[v, .int .i64 (x.pinE N np n)])) ((w2.setCell ⟨wb.heap.size, 0, none⟩ (.int .i64 (x.pinE N np n))).setCell ⟨w.heap.size + 2, 0, none⟩ v) from
    ⟨hV2.own kv2 (by omega) bytes_nopo rfl, v, rfl, fun he => ((h0 he).ty hty (fun _ _ => .inr (by decide))).ty hty2 (fun _ _ => .inr (by decide)), h1⟩)
  have hcz := cell_blk (blk_setCell kv2 0 v)
  obtain ⟨a9, m9, c9, hv9⟩ : ∃ a m c, v = .slice a m c := by
    by_cases he : x.pinE N np n = 0
    · obtain ⟨a, c, e, -⟩ := (h0 he).form
      exact ⟨a, _, c, e⟩
    · exact ⟨_, _, _, h1 he⟩
  subst hv9
  generalize x.pinE N np n = E at *
  clear hV hV2 kv kv2 h0 h1 hk hty hty2
  go_wp2
  refine bodyPost_ret (v := .tuple #[.slice a9 m9 c9, .int .i64 E]) ?_ rfl HF.out
  simp [results, Tryz.results10, go_sem, hcz]
end Go.Proofs.YtocepcibcapfbaaGreat
