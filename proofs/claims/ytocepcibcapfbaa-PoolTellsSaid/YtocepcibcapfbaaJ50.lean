/- Law 5's Page. -/
import Derived.Test.YtocepcibcapfbaaJ49
namespace Go.Proofs.Ytocepcibcapfbaa
set_option linter.unusedVariables false
set_option linter.unusedSimpArgs false
open Go.RowKit

def blankP : Array Value := (List.replicate 256 (Value.int .u8 0)).toArray
theorem mk_blankP (w : World) : (Instr.makeSlice 31 (.int .i64 256) (.int .i64 256)).run Try.prog w = .ok (.slice (some ⟨w.heap.size, 0, none⟩) 256 256) (w.alloc (.cells blankP 5)) := by
  kernel_rfl
/-- A page that is being filled: k bytes are. -/
def Filled (fill : UInt8) (g k : Nat) (w : World) : Prop := ∃ C : Array Value, w.heap[g]? = some (.cells C 5 (0, 0)) ∧ C.size = 256 ∧ (∀ m, m < 256 → ∃ b : UInt8, C[m]? = some (bv b)) ∧ (0 < k → C[0]? = some (bv fill))
theorem mod_byte (x : Int) : ∃ b : UInt8, x % 256 = (b.toNat : Int) := by
  refine ⟨UInt8.ofNat (x % 256).toNat, ?_⟩
  have h2 : (UInt8.ofNat (x % 256).toNat).toNat = (x % 256).toNat % 256 := rfl
  rw [h2]
  omega
def unbv : Value → UInt8
  | .int _ q => UInt8.ofNat q.toNat
  | _ => 0
set_option maxRecDepth 100000 in
set_option maxHeartbeats 1600000 in
theorem page5_any (fill : UInt8) (n : Int) (w : World) : Calls Try.prog 11 #[.int .u8 (fill.toNat : Int), .int .i64 n] w fun e w' => ∃ a cp b, e = .returned (.slice a 256 cp) ∧ RB w' a 256 b ∧ b.length = 256 ∧ b[0]? = some fill ∧ Below w.heap.size w w' := by
  have hmk := mk_blankP w
  have hbl : Below w.heap.size w (w.alloc (.cells blankP 5)) := (Below.refl _ w).alloc (Nat.le_refl _) _
  have HB := Lib.hid hbl
  have HST := Lib.hid (show Filled fill w.heap.size 0 (w.alloc (.cells blankP 5)) from ⟨blankP, alloc_new _ _ _ rfl, by unfold blankP; simp, fun m hm => ⟨0, by unfold blankP; rw [List.getElem?_toArray, List.getElem?_replicate, if_pos hm]; rfl⟩, fun h => by omega⟩)
  generalize hw0 : w.alloc (.cells blankP 5) = w0 at *
  clear hbl hw0
  go_enter Try.func11, Try.ntmps11
  go_wp2
  go_loopw [6] (fun s6 wr => ∃ k : Nat, k ≤ 256 ∧ s6 = .int .i64 k ∧ Filled fill w.heap.size k wr ∧ Below w.heap.size w wr) (fun s6 _ => 256 - (ivOf s6).toNat)
  case atStart => exact ⟨0, by omega, rfl, HST.out, HB.out⟩
  case round =>
    obtain ⟨k, hk, rfl, hF, hb⟩ := hrel
    by_cases hlt : k < 256
    · obtain ⟨C, hC, hs, hm, h0⟩ := hF
      have g := cell_blk hC
      have f := free_blk hC
      obtain ⟨b0, hb0⟩ := hm k hlt
      have g' : wr.cell? ⟨w.heap.size, k, none⟩ = some (bv b0) := (g k).trans hb0
      have HC := Lib.hid hC
      have HS := Lib.hid hs
      have HM := Lib.hid hm
      have H0 := Lib.hid h0
      have HBR := Lib.hid hb
      have i0 : (0 : Int) ≤ (k : Int) := by omega
      have i1 : (k : Int) < 256 := by omega
      have hf0 : (0 : Int) ≤ (fill.toNat : Int) := by omega
      have hf1 : (fill.toNat : Int) ≤ 255 := by have := fill.toNat_lt; omega
      have hstep : ∀ b : UInt8, (k = 0 → b = fill) → Filled fill w.heap.size (k + 1) (wr.setCell ⟨w.heap.size, k, none⟩ (bv b)) ∧ Below w.heap.size w (wr.setCell ⟨w.heap.size, k, none⟩ (bv b)) := fun b hbk => by
        refine ⟨⟨C.setIfInBounds k (bv b), blk_setCell HC.out k _, by simpa using HS.out, fun m hm2 => ?_, fun _ => ?_⟩, HBR.out.setCell (Nat.le_refl _) _⟩
        · by_cases e : m = k
          · subst e
            exact ⟨b, by rw [Array.getElem?_setIfInBounds_self_of_lt (by rw [HS.out]; exact hlt)]⟩
          · rw [Array.getElem?_setIfInBounds_ne (by omega)]
            exact HM.out m hm2
        · by_cases e : k = 0
          · subst e
            rw [Array.getElem?_setIfInBounds_self_of_lt (by rw [HS.out]; omega), hbk rfl]
          · rw [Array.getElem?_setIfInBounds_ne (by omega)]
            exact H0.out (by omega)
      have HSTEP := Lib.hid hstep
      clear g hC hs hm h0 hb hb0 hstep
      by_cases hk0 : k = 0
      · subst hk0
        go_wp2
        exact ⟨⟨1, by omega, rfl, HSTEP.out fill (fun _ => rfl)⟩, by decide⟩
      · have i2 : (0 : Int) < (k : Int) := by omega
        have HK0 := Lib.hid hk0
        clear hk0
        go_wp2
        obtain ⟨b, hb⟩ := mod_byte ((fill.toNat : Int) + wrap64 ((k : Int) / 64 * n))
        rw [hb]
        exact ⟨⟨k + 1, by omega, by go_num, HSTEP.out b (fun h => absurd h HK0.out)⟩, by simp [ivOf]; omega⟩
    · obtain rfl : k = 256 := by omega
      obtain ⟨C, hC, hs, hm, h0⟩ := hF
      have hfin : ∃ b : List UInt8, RB wr (some ⟨w.heap.size, 0, none⟩) 256 b ∧ b.length = 256 ∧ b[0]? = some fill := by
        have hb : ∀ m, m < 256 → C[m]? = some (bv ((C.toList.map unbv)[m]?.getD 0)) := fun m hm2 => by
          obtain ⟨b, hb⟩ := hm m hm2
          rw [List.getElem?_map, Array.getElem?_toList, hb]
          simp [unbv, bv]
        have hl : (C.toList.map unbv).length = 256 := by simp [hs]
        refine ⟨C.toList.map unbv, ⟨⟨hl, by unfold maxLen; omega, fun i hi => ⟨_, rfl, ?_⟩⟩, fun _ p e => by cases e; exact tagA_cells hC⟩, hl, ?_⟩
        · rw [Addr.add_lit, Nat.zero_add, cell_blk hC, hb i (by omega), List.getElem?_eq_getElem hi]
          rfl
        · rw [List.getElem?_map, Array.getElem?_toList, h0 (by omega)]
          simp [unbv, bv]
      obtain ⟨b, hb1, hb2, hb3⟩ := hfin
      have HF := Lib.hid (And.intro hb1 (And.intro hb2 (And.intro hb3 hb)))
      clear hC hs hm h0 hb1 hb2 hb3 hb
      go_wp2
      go_ret
      exact ⟨_, _, b, rfl, HF.out⟩
end Go.Proofs.Ytocepcibcapfbaa
