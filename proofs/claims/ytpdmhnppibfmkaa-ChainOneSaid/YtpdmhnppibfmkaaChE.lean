/- The walks of chapter 11: parts (an iterator that keeps what is left in the captured variable). -/
import Derived.Test.YtpdmhnppibfmkaaChD
import Derived.Test.YtpdmhnppibfmkaaRg
namespace Go.Proofs.Ytpdmhnppibfmkaa
set_option linter.unusedVariables false
set_option linter.unusedSimpArgs false
open Go.RowKit Go.Shelf
attribute [local go_sem] Oper.semAt_some

theorem parts_any (a : Option Addr) (len cap : Nat) (w : World) : Calls Try.prog 73 #[.slice a len cap] w fun e w' =>
    e = .returned (.func (.func 93) #[] #[.pointer (some ⟨w.heap.size, 0, none⟩)]) ∧ w' = w.alloc (.cells #[.slice a len cap] 24) := by
  go_enter Try.func73, Try.ntmps73
  go_wp2
  go_ret
  exact ⟨rfl, rfl⟩

/-- How much is left in the captured variable. -/
def leftB (B : Nat) (W : World) : Nat := match W.cell? ⟨B, 0, none⟩ with
  | some (.slice _ n _) => n
  | _ => 0
theorem leftB_of {B : Nat} {W : World} {x : Option Addr} {n c : Nat} (h : W.cell? ⟨B, 0, none⟩ = some (.slice x n c)) : leftB B W = n := by unfold leftB; rw [h]
def encB (p : Addr) (len k : Nat) : Array Value := #[.slice (some (p.add (244 * k))) (min 244 (len - 244 * k)) (min 244 (len - 244 * k))]
/-- What the captured variable holds when k rounds are over. -/
def BoxAt (B : Nat) (p : Addr) (len k : Nat) (W : World) : Prop :=
  ∃ x cx, W.heap[B]? = some (.cells #[.slice x (len - 244 * k) cx] 24 (0, 0)) ∧ len - 244 * k ≤ cx ∧ (244 * k < len → x = some (p.add (244 * k)))
set_option maxRecDepth 100000 in
set_option maxHeartbeats 1600000 in
theorem parts_box (n : Nat) (hn : 1 ≤ n) (B : Nat) (p : Addr) (len N : Nat) (hN : N = P.needN len) (w : World) (hlen : len ≤ 1048576) (hB : B < w.heap.size) (hbox : BoxAt B p len 0 w) :
    SeqBox Fence.wide n Try.prog 93 #[.pointer (some ⟨B, 0, none⟩)] (encB p len) B N w := by
  intro l J W hbw hJB hY hJ0
  have hbox0 : BoxAt B p len 0 W := by
    obtain ⟨x, cx, h1, h2, h3⟩ := hbox
    exact ⟨x, cx, (hbw.block _ hB).trans h1, h2, h3⟩
  have hlt : ∀ k, k < N ↔ 244 * k < len := by intro k; rw [hN]; unfold P.needN; omega
  have HLT := Lib.hid hlt
  clear hbw hbox hB hN hlt
  refine callsIn_of_wp Try.func93 rfl trivial ?_ rfl
  simp only [Try.ntmps93, List.size_toArray, List.length_cons, List.length_nil, Nat.reduceAdd, Nat.reduceSub, Array.replicate_succ, Array.replicate_zero, List.push_toArray, List.append_toArray, List.nil_append, List.cons_append]
  gi_wp2
  gi_loopw [3] (fun _ wr => ∃ k, k ≤ N ∧ BoxAt B p len k wr ∧ J k wr) (fun _ wr => leftB B wr)
  case atStart => exact ⟨0, Nat.zero_le _, hbox0, hJ0⟩
  case round =>
    obtain ⟨k, hk, ⟨x, cx, hb, hcx, hx⟩, hJk⟩ := hrel
    have hc0 := cell_blk hb
    have hf0 := free_blk hb
    have HB := Lib.hid hb
    have lB := lt_of_block hb
    by_cases hkN : k < N
    · have h244 := (HLT.out k).1 hkN
      obtain rfl := hx h244
      obtain ⟨fn, tmps, assign, body, hy, hR⟩ := hY k wr hJk hkN
      obtain ⟨L, hL⟩ : ∃ L, L = len - 244 * k := ⟨_, rfl⟩
      have hL1 : 1 ≤ L := by omega
      have hL2 : L ≤ 1048576 := by omega
      obtain ⟨q, hq⟩ : ∃ q, q = p.add (244 * k) := ⟨_, rfl⟩
      unfold encB at hy
      rw [← hL, ← hq] at hy
      rw [← hL, ← hq] at HB hc0
      rw [← hL] at hcx
      have hq2 : q.add 244 = p.add (244 * (k + 1)) := by rw [hq, add_add]; congr 1
      have hL3 : len - 244 * (k + 1) = L - 244 := by omega
      have HQ := Lib.hid hq2
      have HL3 := Lib.hid hL3
      have HL := Lib.hid hL
      have hi1 : (0 : Int) < (L : Int) := by omega
      have hms := leftB_of (hc0 0)
      have HMS := Lib.hid hms
      clear hq hL hL3 hq2 hb hms
      by_cases hge : 244 ≤ L
      · rw [show min 244 L = 244 by omega] at hy
        have hi2 : (244 : Int) ≤ (L : Int) := by omega
        have hi3 : (244 : Int) ≤ (cx : Int) := by omega
        by_cases hcq : cx = 244
        · obtain rfl := hcq
          obtain rfl : L = 244 := by omega
          gi_wp2
          refine hR.mono ?_
          rintro e W3 ⟨rfl, hJ3, hB3⟩
          have hb3 := hB3.trans HB.out
          have hc3 := cell_blk hb3
          have hf3 := free_blk hb3
          clear hc0 hf0
          gi_wp2
          go_roundw
          case rel => exact ⟨k + 1, by omega, ⟨some q, 0, by rw [HL3.out]; exact blk_setCell hb3 0 _, by have := HL3.out; omega, fun h => by first | (rw [← HQ.out]; done) | (have := HL3.out; omega)⟩, hJB _ _ _ hJ3⟩
          case measure =>
            rw [HMS.out, leftB_of (cell_blk (blk_setCell hb3 0 _) 0)]
            omega
        · have hcn : ¬ cx = 244 := hcq
          gi_wp2
          refine hR.mono ?_
          rintro e W3 ⟨rfl, hJ3, hB3⟩
          have hb3 := hB3.trans HB.out
          have hc3 := cell_blk hb3
          have hf3 := free_blk hb3
          clear hc0 hf0
          gi_wp2
          go_roundw
          case rel => exact ⟨k + 1, by omega, ⟨some (q.add 244), cx - 244, by rw [HL3.out]; exact blk_setCell hb3 0 _, by have := HL3.out; omega, fun h => by first | (rw [← HQ.out]; done) | (have := HL3.out; omega)⟩, hJB _ _ _ hJ3⟩
          case measure =>
            rw [HMS.out, leftB_of (cell_blk (blk_setCell hb3 0 _) 0)]
            omega
      · have hlt2 : L < 244 := by omega
        rw [show min 244 L = L by omega] at hy
        have hi2 : ¬ (244 : Int) ≤ (L : Int) := by omega
        have hi3 : (L : Int) ≤ (cx : Int) := by omega
        have hz : L - 244 = 0 := by omega
        rw [hz] at HL3
        clear hge hz
        by_cases hcq : cx = L
        · subst hcq
          gi_wp2
          refine hR.mono ?_
          rintro e W3 ⟨rfl, hJ3, hB3⟩
          have hb3 := hB3.trans HB.out
          have hc3 := cell_blk hb3
          have hf3 := free_blk hb3
          clear hc0 hf0
          gi_wp2
          go_roundw
          case rel => exact ⟨k + 1, by omega, ⟨some q, 0, by rw [HL3.out]; exact blk_setCell hb3 0 _, by have := HL3.out; omega, fun h => by first | (rw [← HQ.out]; done) | (have := HL3.out; omega)⟩, hJB _ _ _ hJ3⟩
          case measure =>
            rw [HMS.out, leftB_of (cell_blk (blk_setCell hb3 0 _) 0)]
            omega
        · have hcn : ¬ cx = L := hcq
          have hsz : L - L = 0 := Nat.sub_self L
          gi_wp2
          refine hR.mono ?_
          rintro e W3 ⟨rfl, hJ3, hB3⟩
          have hb3 := hB3.trans HB.out
          have hc3 := cell_blk hb3
          have hf3 := free_blk hb3
          clear hc0 hf0
          gi_wp2
          go_roundw
          case rel => exact ⟨k + 1, by omega, ⟨some (q.add L), cx - L, by rw [HL3.out]; exact blk_setCell hb3 0 _, by have := HL3.out; omega, fun h => by first | (rw [← HQ.out]; done) | (have := HL3.out; omega)⟩, hJB _ _ _ hJ3⟩
          case measure =>
            rw [HMS.out, leftB_of (cell_blk (blk_setCell hb3 0 _) 0)]
            omega
    · obtain rfl : k = N := by omega
      have hz : len - 244 * k = 0 := by
        have := (HLT.out k)
        omega
      rw [hz] at hc0
      gi_wp2
      go_end0
      exact ⟨⟨_, rfl⟩, hJk⟩
end Go.Proofs.Ytpdmhnppibfmkaa
