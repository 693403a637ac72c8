/- The device: made, Load. -/
import Derived.Test.YtocepcibcapfbaaGreatJ08
import Derived.Test.YtocepcibcapfbaaGreatJ09
import Derived.Deep.DeepCutAuto
import Derived.Deep.OwnRows
import Derived.Laws.CopyOwn
namespace Go.Proofs.YtocepcibcapfbaaGreat
set_option linter.unusedVariables false
set_option linter.unusedSimpArgs false
open Go.RowKit

/-- The zero of a block of bytes. -/
def blkZ : Value := .agg (List.replicate 256 (.int .u8 0)).toArray
set_option maxRecDepth 100000 in
theorem blk_info : (Tryz.prog.info? 93).map (fun i => (i.zero, i.size, i.bytes)) = some (some blkZ, 256, 256) := by kernel_rfl
theorem blkZ_cells : blkZ.cells = (List.replicate 256 (Value.int .u8 0)).toArray := by kernel_rfl
theorem blocksT : SlT 66 93 256 256 := ⟨Tryz.underlying66, ⟨blkZ, blk_info, by rw [blkZ_cells, List.size_toArray, List.length_replicate]⟩, by omega⟩
theorem rep_at (m k : Nat) (x : Value) (h : k < m) : (List.replicate m x).toArray[k]! = x := by simp [h]
theorem made_blk (n : Nat) : madeCells blkZ.cells (n * 256) = (bvs (List.replicate (n * 256) 0)).toArray := by
  apply Array.ext'
  apply List.ext_getElem?
  intro j
  by_cases hj : j < n * 256
  · have h256 : blkZ.cells.size = 256 := by rw [blkZ_cells, List.size_toArray, List.length_replicate]
    have hm : j % 256 < 256 := Nat.mod_lt _ (by omega)
    simp only [madeCells, h256]
    rw [Array.getElem?_toList, Array.getElem?_map]
    simp only [hj, Array.getElem?_range, if_true, Option.map_some]
    rw [blkZ_cells, rep_at _ _ _ hm]
    simp [bvs, bv, hj]
  · simp [madeCells, hj, bvs]
theorem mk_blocks (n : Nat) (hn : n ≤ 4096) (w : World) : (Instr.makeSlice 66 (.int .i64 (n : Int)) (.int .i64 (n : Int))).run Tryz.prog w = .ok (.slice (some ⟨w.heap.size, 0, none⟩) n n) (w.alloc (.cells (bvs (List.replicate (n * 256) 0)).toArray 93)) := by
  obtain ⟨i, hi, hz0, hz1, hz2⟩ := info_parts blk_info
  have h := run_make (P := Tryz.prog) w 66 93 i blkZ Tryz.underlying66 hi hz0 .i64 .i64 (n : Int) (n : Int) (by omega) (by omega) (by rw [hz2]; omega) (by omega)
  simp only [Int.toNat_natCast, hz1] at h
  rw [h, made_blk]
end Go.Proofs.YtocepcibcapfbaaGreat
/- The device: made, New. -/
namespace Go.Proofs.YtocepcibcapfbaaGreat
set_option linter.unusedVariables false
set_option linter.unusedSimpArgs false
set_option linter.unusedSectionVars false
open Go.RowKit
variable [Inhabited AvT]

theorem dfmake_any (B g np cap : Nat) (img : List UInt8) (w : World) (hB : B ≤ g) (Cg : Array Value) (hg : w.heap[g]? = some (.cells Cg 93 (0, 0))) (hcg : np ≤ cap ∧ cap ≤ maxLen) (hr : RV w (some ⟨g, 0, none⟩) np 256 (bvs img)) (h8 : 8 ≤ np) (h4 : np ≤ 4096) (hav : ∀ k, av k → k < w.heap.size) :
    Calls Tryz.prog 38 #[.slice (some ⟨g, 0, none⟩) np cap] w fun e w' => ∃ d, e = .returned (.pointer (some ⟨d, 0, none⟩)) ∧ w.heap.size ≤ d ∧ DvIs B w' d np ⟨img, img, [], -1, false, 0, []⟩ ∧ Below w.heap.size w w' := by
  have HR := Lib.hid hr
  have HG := Lib.hid hg
  have hgz := lt_of_block hg
  clear hr hg
  go_enter Tryz.func38, Tryz.ntmps38
  go_wp2_with (at_builtin; refine wpList_appV blocksT _ rfl _ _ rfl w.heap.size _ _ _ rfl (OV.nil _ _ _ _) _ _ _ _ rfl HR.out (bvs_one _) ?c1 ?c2 (Nat.le_refl _) ?_)
  case c1 => omega
  case c2 => omega
  intro v1 w1 ho1 hg1 hat1
  obtain ⟨gn, cn, rfl, hgb, hgl, hrv, hcn⟩ := ho1.pos (by omega)
  have hb1 : Below w.heap.size w w1 := (OV.nil w w.heap.size 93 256).grown (Below.refl _ _) (Nat.le_refl _) hg1
  have hcm : cn ≤ maxLen ∧ ∃ Cn, w1.heap[gn]? = some (.cells Cn 93 (0, 0)) := by
    rcases ho1.2 with ⟨e, -⟩ | ⟨g', cap', cur, e, -, hg, -, hm, -⟩
    · cases e
    · cases e; exact ⟨hm, _, hg⟩
  have HO := Lib.hid hrv
  have HC := Lib.hid hcm
  clear ho1 hg1 hat1 hrv hcm
  go_wp2
  go_ret
  have hbb := (hb1.alloc hb1.size (.cells #[.slice (some ⟨g, 0, none⟩) np cap, .slice (some ⟨gn, 0, none⟩) np cn, .slice none 0 0, .slice none 0 0, .int .i64 (-1), .bool false, .int .i64 0] 85))
  obtain ⟨hcm, Cn, hC⟩ := HC.out
  refine ⟨w1.heap.size, rfl, hb1.size, ⟨_, gn, cn, _, none, 0, 0, -1, 0, [], Cn, alloc_new _ _ _ rfl, ⟨by have := hb1.size; omega, by omega⟩, alloc_old hC _, ?_, ⟨hcn, hcm⟩, Rd.nil _ _, ⟨Nat.le_refl _, by unfold maxLen; omega⟩, ⟨fun k hk => Nat.lt_of_lt_of_le (hav k hk) hbb.size, fun h => by omega⟩, ⟨OV.nil _ _ _ _, ⟨rfl, rfl⟩, g, cap, Cg, rfl, ⟨hB, by omega⟩, alloc_old ((hb1.block g hgz).trans HG.out) _, (HR.out.below hb1).below ((Below.refl _ w1).alloc (Nat.le_refl _) _), hcg⟩, Nat.le_refl _, ⟨h8, h4⟩, by simp, by show (-1 : Int) = max (-1) (-1); decide, by omega⟩, hbb⟩
  exact HO.out.below ((Below.refl _ w1).alloc (Nat.le_refl _) _)
set_option maxRecDepth 100000 in
set_option maxHeartbeats 1600000 in
theorem dfnew_any (B np : Nat) (w : World) (hBw : B ≤ w.heap.size) (h8 : 8 ≤ np) (h4 : np ≤ 4096) (hav : ∀ k, av k → k < w.heap.size) :
    Calls Tryz.prog 6 #[.int .i64 (np : Int)] w fun e w' => ∃ d, e = .returned (.tuple #[.pointer (some ⟨d, 0, none⟩), .int .i64 0]) ∧ w.heap.size ≤ d ∧ DvIs B w' d np ⟨List.replicate (np * 256) 0, List.replicate (np * 256) 0, [], -1, false, 0, []⟩ ∧ Below w.heap.size w w' := by
  have n8 : (8 : Int) ≤ (np : Int) := by omega
  have n4 : (np : Int) ≤ 4096 := by omega
  have hmk := fun w => mk_blocks np h4 w
  obtain ⟨w0, hw0⟩ : ∃ w0, w0 = w.alloc (.cells (bvs (List.replicate (np * 256) 0)).toArray 93) := ⟨_, rfl⟩
  have hb0 : Below w.heap.size w w0 := by rw [hw0]; exact (Below.refl _ w).alloc (Nat.le_refl _) _
  have k0 : w0.heap[w.heap.size]? = some (.cells (bvs (List.replicate (np * 256) 0)).toArray 93 (0, 0)) := by rw [hw0]; exact alloc_new _ _ _ rfl
  have hrv : RV w0 (some ⟨w.heap.size, 0, none⟩) np 256 (bvs (List.replicate (np * 256) 0)) := by
    refine ⟨by rw [bvs_length, List.length_replicate], by unfold maxLen; omega, fun i hi => ⟨_, rfl, ?_⟩⟩
    rw [show (⟨w.heap.size, 0, none⟩ : Addr).add i = ⟨w.heap.size, i, none⟩ from by unfold Addr.add; split <;> simp_all, cell_blk k0]
    simp
  have HV := Lib.hid hrv
  have HK := Lib.hid k0
  have HB := Lib.hid hb0
  generalize List.replicate (np * 256) (0 : UInt8) = img at *
  clear hrv hb0 k0
  go_enter Tryz.func6, Tryz.ntmps6
  go_wp2_with fail
  rw [← hw0]
  clear hw0 hmk
  refine (dfmake_any B _ _ _ img _ hBw _ HK.out ⟨Nat.le_refl _, by unfold maxLen; omega⟩ HV.out h8 h4 (fun k hk => Nat.lt_of_lt_of_le (hav k hk) HB.out.size)).mono ?_
  rintro e w2 ⟨d, rfl, hd1, hd2, hd3⟩
  have HD := Lib.hid hd2
  clear hd2
  go_wp2
  go_ret2
  exact ⟨d, rfl, by have := HB.out.size; omega, HD.out, below_then HB.out hd3 HB.out.size⟩
end Go.Proofs.YtocepcibcapfbaaGreat
