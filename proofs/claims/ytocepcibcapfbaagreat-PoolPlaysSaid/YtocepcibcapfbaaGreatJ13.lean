/- The device: op, where it dies. -/
import Derived.Test.YtocepcibcapfbaaGreatJ12
namespace Go.Proofs.YtocepcibcapfbaaGreat
set_option linter.unusedVariables false
set_option linter.unusedSimpArgs false
set_option linter.unusedSectionVars false
open Go.RowKit
variable [Inhabited AvT]

/-- How op ends where the device dies. -/
def OpD (B d np : Nat) (x : P.Dv) (R : World → World → Prop) (w : World) (e : Ending) (w' : World) : Prop :=
  e = .returned (.int .i64 7) ∧ ∃ wx, Ty B devT w wx ∧ DvIs B wx d np x.op ∧ w.heap.size ≤ wx.heap.size ∧ R wx w'
set_option maxRecDepth 100000 in
set_option maxHeartbeats 3200000 in
theorem opf_die (B d np : Nat) (x : P.Dv) (fd fy : FuncId) (caps cy : Array Value) (R : World → World → Prop) (w : World) (h : DvIs B w d np x) (U : Option TypeId → Prop) (hU : ¬ U (some 26)) (hdead : x.dead = false) (hfuse : x.fuse = 0) (hop : x.ops < 1000000)
    (hen : ∀ args w, (callFunc fy args).run Tryz.prog w = .ok (.enter fy args) w)
    (hdo : ∀ wx, Ty B devT w wx → DvIs B wx d np x.op → Calls Tryz.prog fy cy wx (fun e w1 => (R wx w1 ∧ Ty 0 U wx w1) ∧ e = .returned (.tuple #[]))) :
    Calls Tryz.prog 70 #[.pointer (some ⟨d, 0, none⟩), .func (.func fd) #[] caps, .func (.func fy) #[] cy] w (OpD B d np x R w) := by
  have hmf : ∀ (fn : Fn) (first cap : Array Value) (w : World), (Instr.makeFunc fn first cap).run Tryz.prog w = .ok (.func fn first cap) w := fun _ _ _ _ => rfl
  have HM := Lib.hid (fun w (h : DvIs B w d np x) => dfmade_any B d np x w h)
  obtain ⟨w0, hw0⟩ : ∃ w0, w0 = ((w.alloc (.cells #[.pointer (some ⟨d, 0, none⟩)] 25)).alloc (.cells #[.func (.func fy) #[] cy] 1)).alloc (.cells #[.int .i64 0] 26) := ⟨_, rfl⟩
  have hb0 : Below w.heap.size w w0 := by rw [hw0]; exact ((((Below.refl _ w).alloc (Nat.le_refl _) _).alloc (by simp) _).alloc (by simp; omega) _)
  have k0 : w0.heap[w.heap.size]? = some (.cells #[.pointer (some ⟨d, 0, none⟩)] 25 (0, 0)) := by rw [hw0]; exact alloc_old (alloc_old (alloc_new _ _ _ rfl) _) _
  have k1 : w0.heap[w.heap.size + 1]? = some (.cells #[.func (.func fy) #[] cy] 1 (0, 0)) := by rw [hw0]; exact alloc_old (alloc_new _ _ _ (by simp)) _
  have k2 : w0.heap[w.heap.size + 2]? = some (.cells #[.int .i64 0] 26 (0, 0)) := by rw [hw0]; exact alloc_new _ _ _ (by simp)
  have HZ := Lib.hid (show w0.heap.size = w.heap.size + 3 by rw [hw0]; simp)
  have H0 := Lib.hid (h.below hb0)
  have K0 := Lib.hid k0
  have K1 := Lib.hid k1
  have K2 := Lib.hid k2
  have h00 := h.below hb0
  have HDO := Lib.hid hdo
  have HEN := Lib.hid hen
  have HDD := Lib.hid hdead
  have HOP := Lib.hid (show x.op = { x with ops := x.ops + 1, dead := true } by unfold P.Dv.op; rw [if_pos hfuse])
  have HFU := Lib.hid hfuse
  have hlt := h.lt
  obtain ⟨vl, gn, cn, vw, ao, no, co, fz, nw, lw, Cn, d1, d2, d3, d4, d5, d6, d7, d8, d9, d10, d11, d12, d13, d14⟩ := h00
  have hfz : fz = 0 := by omega
  subst hfz
  rw [HDD.out] at d1
  have n0 : ¬ d = w.heap.size := by omega
  have n2 : ¬ d = w.heap.size + 2 := by omega
  have D1 := Lib.hid d1
  have D6 := Lib.hid d6
  have D7 := Lib.hid d7
  have D8 := Lib.hid d8
  have D13 := Lib.hid d13
  have HB0 := Lib.hid hb0
  have HOPS := Lib.hid hop
  have g0 := cell_blk k0
  have gd := cell_blk d1
  have fd' := free_blk d1
  unfold dvF at gd
  have o1 : (0 : Int) ≤ (x.ops : Int) := by omega
  have o2 : (x.ops : Int) < 1000000 := by omega
  obtain ⟨ops, hops⟩ : ∃ ops, ops = x.ops := ⟨_, rfl⟩
  rw [← hops] at gd o1 o2
  have HO := Lib.hid hops
  clear d1 d2 d3 d4 d5 d6 d9 d10 d11 d12 k0 k1 k2 hdo h hb0 d13 d14 d7 d8 hop hops hen hdead hfuse
  go_enter_defers Tryz.func70, Tryz.ntmps70
  go_wp2_with fail
  rw [← hw0]
  refine (HM.out _ H0.out).mono ?_
  rintro e w1 ⟨rfl, rfl⟩
  clear hw0
  go_wp2_with fail
  obtain ⟨wt, hwt⟩ : ∃ wt, wt = w0.setCell ⟨d, 6, none⟩ (.int .i64 ((ops : Int) + 1)) := ⟨_, rfl⟩
  have htc : Chg (fun j => j = d) w0 wt := by rw [hwt]; exact setCell_chg _ _ _ _
  have htd : wt.heap[d]? = some (.cells (dvF vl gn np cn vw ao no co 0 false (ops + 1)) 85 (0, 0)) := by
    rw [hwt, HO.out, blk_setCell D1.out]
    rfl
  rw [← hwt]
  clear hwt gd fd' g0
  have q0 := (htc.block _ (by have := HZ.out; omega) (Ne.symm n0)).trans K0.out
  have q1 := (htc.block _ (by have := HZ.out; omega) (by omega)).trans K1.out
  have q2 := (htc.block _ (by have := HZ.out; omega) (by omega)).trans K2.out
  have gt := cell_blk htd
  have ft := free_blk htd
  simp [Instr.panic, go_sem, Oper.upon_panic]
  obtain ⟨wd, hwd⟩ : ∃ wd, wd = (wt.alloc (.cells #[] 103)).setCell ⟨d, 5, none⟩ (.bool true) := ⟨_, rfl⟩
  have hdc : Chg (fun j => j = d) w0 wd := by rw [hwd]; exact (htc.alloc _).setCell _ _ (.inr rfl)
  have hdd : wd.heap[d]? = some (.cells (dvF vl gn np cn vw ao no co 0 true (ops + 1)) 85 (0, 0)) := by
    rw [hwd, blk_setCell (alloc_old htd _)]
    rfl
  have hre : DvIs B wd d np x.op ∧ Ty B devT w0 wd := by
    rw [HOP.out]
    refine DvIs.re (x' := { x with ops := x.ops + 1, dead := true }) H0.out (by have := D1.out; rw [HDD.out]; exact this) hdc (by rw [HO.out] at hdd; exact hdd) ⟨rfl, rfl, rfl⟩ D6.out D7.out D8.out ⟨by simp, by have := HOPS.out; show x.ops + 1 ≤ 1000000; omega⟩ D13.out ⟨by omega, by omega⟩
  have r2 := (hdc.block _ (by have := HZ.out; omega) (by omega)).trans K2.out
  have hte : Ty (w.heap.size + 2) (fun t => t = some 26) wd (wd.setCell ⟨w.heap.size + 2, 0, none⟩ (.int .i64 7)) := (Ty.refl _ _ _).setCell _ _ (.inr ⟨Nat.le_refl _, _, tagA_cells r2, rfl⟩)
  have hDx := hre.1.ty hte ⟨by decide, by decide, by decide, by decide⟩
  have hTx : Ty B devT w (wd.setCell ⟨w.heap.size + 2, 0, none⟩ (.int .i64 7)) := ((Ty.of_below HB0.out).trans hre.2).new (hte.mono (Nat.le_add_right _ _) (fun _ h => h))
  have hsz : w.heap.size + 3 ≤ wd.heap.size := by have := hdc.size; have := HZ.out; omega
  have hd5 := (HDO.out _ hTx hDx)
  have s2 := blk_setCell r2 0 (.int .i64 7)
  refine leaves_cons (f := 84) (args := #[.pointer (some ⟨w.heap.size, 0, none⟩), .pointer (some ⟨w.heap.size + 2, 0, none⟩), .pointer (some ⟨w.heap.size + 1, 0, none⟩)]) (by simp) (by simp [go_sem]) ?_
  refine (op1_die d (w.heap.size + 2) w.heap.size (w.heap.size + 1) 0 false fy cy [] wt (fun _ w' => OpD B d np x R w (.returned (.int .i64 7)) w' ∧ w'.heap[w.heap.size + 2]? = some (.cells #[.int .i64 7] 26 (0, 0)))
    (cell_blk q0 0) (cell_blk q1 0) (cell_blk q2 0) (free_blk q2 0) (gt 5) (ft 5) ⟨⟨by omega, by omega⟩, by omega⟩ ⟨lt_of_block q0, lt_of_block htd, lt_of_block q2, lt_of_block q1⟩ HEN.out ?_).mono ?_
  · rw [← hwd]
    refine hd5.mono ?_
    rintro e w' ⟨⟨hR, hty⟩, rfl⟩
    exact ⟨⟨⟨rfl, _, hTx, hDx, by simp [World.setCell]; omega, hR⟩, (hty.cells s2 (.inr hU))⟩, rfl⟩
  · rintro e u' w'' ⟨rfl, rfl, hR, hg⟩
    have hcz := cell_blk hg
    simp [Leaves, settle, results, Tryz.results70, go_sem, hcz]
    exact hR
end Go.Proofs.YtocepcibcapfbaaGreat
