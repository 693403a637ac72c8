/- The device: op, whatever it does, where it is not dead and does not die. Printed by gen_dfc.py. -/
import Derived.Test.YtocepcibcapfbaaGreatJ10
namespace Go.Proofs.YtocepcibcapfbaaGreat
set_option linter.unusedVariables false
set_option linter.unusedSimpArgs false
set_option linter.unusedSectionVars false
open Go.RowKit
variable [Inhabited AvT]

set_option maxRecDepth 100000 in
set_option maxHeartbeats 16000000 in
theorem opf_any (B d np : Nat) (x : P.Dv) (fd : FuncId) (caps : Array Value) (dy : Value) (R : World → Ending → World → Prop) (w : World) (h : DvIs B w d np x) (U : Option TypeId → Prop) (hU : ¬ U (some 26)) (hdead : x.dead = false) (hfuse : x.fuse ≠ 0) (hop : x.ops < 1000000)
    (hdy : ∃ f c, dy = .func (.func f) #[] c) (hen : ∀ args w, (callFunc fd args).run Tryz.prog w = .ok (.enter fd args) w)
    (hdo : ∀ wx, Ty B devT w wx → w.heap.size + 3 ≤ wx.heap.size → DvIs B wx d np x.op → Calls Tryz.prog fd (#[.int .u8 (x.out : Int)] ++ caps) wx (fun e w1 => R wx e w1 ∧ (∃ k, e = .returned (.int .i64 k)) ∧ Ty 0 U wx w1)) :
    Calls Tryz.prog 70 #[.pointer (some ⟨d, 0, none⟩), .func (.func fd) #[] caps, dy] w (OpC B d np x R w) := by
  obtain ⟨fy, cy, rfl⟩ := hdy
  have hmf : ∀ (fn : Fn) (first cap : Array Value) (w : World), (Instr.makeFunc fn first cap).run Tryz.prog w = .ok (.func fn first cap) w := fun _ _ _ _ => rfl
  have HM := Lib.hid (fun w (h : DvIs B w d np x) => dfmade_any B d np x w h)
  obtain ⟨w0, hw0⟩ : ∃ w0, w0 = ((w.alloc (.cells #[.pointer (some ⟨d, 0, none⟩)] 25)).alloc (.cells #[.func (.func fy) #[] cy] 1)).alloc (.cells #[.int .i64 0] 26) := ⟨_, rfl⟩
  have hb0 : Below w.heap.size w w0 := by rw [hw0]; exact ((((Below.refl _ w).alloc (Nat.le_refl _) _).alloc (by simp) _).alloc (by simp; omega) _)
  have k0 : w0.heap[w.heap.size]? = some (.cells #[.pointer (some ⟨d, 0, none⟩)] 25 (0, 0)) := by rw [hw0]; exact alloc_old (alloc_old (alloc_new _ _ _ rfl) _) _
  have k2 : w0.heap[w.heap.size + 2]? = some (.cells #[.int .i64 0] 26 (0, 0)) := by rw [hw0]; exact alloc_new _ _ _ (by simp)
  have HZ := Lib.hid (show w0.heap.size = w.heap.size + 3 by rw [hw0]; simp)
  have H0 := Lib.hid (h.below hb0)
  have K0 := Lib.hid k0
  have K2 := Lib.hid k2
  have h00 := h.below hb0
  have HDO := Lib.hid hdo
  have HEN := Lib.hid hen
  have HDD := Lib.hid hdead
  have HFU := Lib.hid hfuse
  clear hen hdead hfuse
  have hlt := h.lt
  obtain ⟨vl, gn, cn, vw, ao, no, co, fz, nw, lw, Cn, d1, d2, d3, d4, d5, d6, d7, d8, d9, d10, d11, d12, d13, d14⟩ := h00
  rw [HDD.out] at d1
  have n0 : ¬ d = w.heap.size := by omega
  have n2 : ¬ d = w.heap.size + 2 := by omega
  have D1 := Lib.hid d1
  have D6 := Lib.hid d6
  have D7 := Lib.hid d7
  have D8 := Lib.hid d8
  have D13 := Lib.hid d13
  have D14 := Lib.hid d14
  have HB0 := Lib.hid hb0
  have HOPS := Lib.hid hop
  have hfz0 : fz ≠ 0 := by have := HFU.out; omega
  have HFZ := Lib.hid hfz0
  have g0 := cell_blk k0
  have g2 := cell_blk k2
  have f2 := free_blk k2
  have gd := cell_blk d1
  have fd' := free_blk d1
  unfold dvF at gd
  have o1 : (0 : Int) ≤ (x.ops : Int) := by omega
  have o2 : (x.ops : Int) < 1000000 := by omega
  have z1 : (fz == 0) = false := by simp; exact hfz0
  obtain ⟨ops, hops⟩ : ∃ ops, ops = x.ops := ⟨_, rfl⟩
  rw [← hops] at gd o1 o2
  have HO := Lib.hid hops
  clear d1 d2 d3 d4 d5 d6 d9 d10 d11 d12 k0 k2 hdo h hb0 d13 d14 d7 d8 hfz0 hop hops
  rcases Int.lt_or_gt_of_ne HFZ.out with hneg | hneg
  · have HNEG := Lib.hid hneg
    have z2 : decide (0 < fz) = false := decide_eq_false (by omega)
    clear hneg
    rcases ho : x.outs with _ | ⟨c, outs⟩
    · have HNIL := Lib.hid ho
      clear ho
      go_enter_defers Tryz.func70, Tryz.ntmps70
      go_wp2_with fail
      rw [← hw0]
      refine (HM.out _ H0.out).mono ?_
      rintro e w1 ⟨rfl, rfl⟩
      clear hw0
      go_upto_region 11 with (fail)
      obtain ⟨wy, hwy⟩ : ∃ wy, wy = w0.setCell ⟨d, 6, none⟩ (.int .i64 ((ops : Int) + 1)) := ⟨_, rfl⟩
      have hyc : Chg (fun j => j = d) w0 wy := by rw [hwy]; exact setCell_chg _ _ _ _
      have hyd : wy.heap[d]? = some (.cells (dvF vl gn np cn vw ao no co fz false (ops + 1)) 85 (0, 0)) := by
        rw [hwy, HO.out, blk_setCell D1.out]
        rfl
      have HF' := Lib.hid (show (if x.fuse > 0 then x.fuse - 1 else x.fuse) = max fz (-1) ∧ -9223372036854775808 ≤ fz ∧ fz ≤ 9223372036854775807 by have := D13.out; have := D14.out; have := HNEG.out; omega)
      rw [← hwy]
      clear hwy gd fd' g0 g2 f2
      have HOUT := Lib.hid (show x.out = 0 by unfold P.Dv.out; rw [if_neg HFU.out, HNIL.out]; rfl)
      have HOP := Lib.hid (show x.op = { x with ops := x.ops + 1, fuse := if x.fuse > 0 then x.fuse - 1 else x.fuse } by unfold P.Dv.op; rw [if_neg HFU.out, HNIL.out]; rfl)
      have hre : DvIs B wy d np x.op ∧ Ty B devT w0 wy := by
        rw [HOP.out]
        refine DvIs.re (x' := { x with ops := x.ops + 1, fuse := if x.fuse > 0 then x.fuse - 1 else x.fuse }) H0.out (by have := D1.out; rw [HDD.out]; exact this) hyc (by rw [HO.out] at hyd; rw [HDD.out]; exact hyd) ⟨rfl, rfl, rfl⟩ D6.out D7.out D8.out ⟨by simp, by have := HOPS.out; show x.ops + 1 ≤ 1000000; omega⟩ HF'.out.1 HF'.out.2
      obtain ⟨wx, hwx⟩ : ∃ wx, wx = wy := ⟨_, rfl⟩
      rw [← hwx] at hre hyc hyd ⊢
      have k0y := (hyc.block _ (lt_of_block K0.out) (Ne.symm n0)).trans K0.out
      have gdy := cell_blk hyd
      have g0y := cell_blk k0y
      unfold dvF at gdy
      have HRE := Lib.hid hre
      have Q4 := Lib.hid ((hyc.block _ (by have := HZ.out; omega) (by omega)).trans K2.out)
      have HD := Lib.hid (HDO.out wx ((Ty.of_below HB0.out).trans hre.2) (by have := hyc.size; have := HZ.out; omega) hre.1)
      rw [HOUT.out] at HD
      have hno : no = 0 := by rw [← D6.out.1, HNIL.out]; rfl
      subst hno
      clear hwx hyc hyd hre k0y
      go_wp2_with fail
      rw [HEN.out, Oper.upon_enter]
      refine HD.out.mono ?_
      rintro e w1 ⟨hR, ⟨k, rfl⟩, hty⟩
      have q5 := hty.cells Q4.out (.inr hU)
      have HE := Lib.hid (show OpC B d np x R w (.returned (.int .i64 k)) (w1.setCell ⟨w.heap.size + 2, 0, none⟩ (.int .i64 k)) from
        ⟨wx, w1, k, (Ty.of_below HB0.out).trans HRE.out.2, HRE.out.1, hR, rfl, (Ty.refl _ _ _).setCell _ _ (.inr ⟨Nat.le_add_right _ _, _, tagA_cells q5, rfl⟩), by have := HRE.out.2.size; have := HZ.out; omega⟩)
      have z5 := cell_blk q5
      have f5 := free_blk q5
      have hcz := cell_blk (blk_setCell q5 0 (.int .i64 k))
      clear hR hty q5
      go_wp2
      refine leaves_cons (f := 84) (args := #[.pointer (some ⟨w.heap.size, 0, none⟩), .pointer (some ⟨w.heap.size + 2, 0, none⟩), .pointer (some ⟨w.heap.size + 1, 0, none⟩)]) (by simp) (by simp [go_sem]) ?_
      refine (op1_idle _ _ _ _).mono ?_
      rintro e u' w'' ⟨rfl, rfl, rfl⟩
      have HR := HE.out
      simp [Leaves, settle, results, Tryz.results70, go_sem, hcz]
      exact HR
    · have HNIL := Lib.hid ho
      clear ho
      have hco : co = 1 ∨ co ≠ 1 := by omega
      rcases hco with u4 | u4
      · subst u4
        have u6 : no = 1 := by have h1 := D7.out; have h2 := D6.out.1; rw [HNIL.out] at h2; simp at h2; omega
        have U6 := Lib.hid u6
        clear u6
        go_enter_defers Tryz.func70, Tryz.ntmps70
        go_wp2_with fail
        rw [← hw0]
        refine (HM.out _ H0.out).mono ?_
        rintro e w1 ⟨rfl, rfl⟩
        clear hw0
        go_upto_region 11 with (fail)
        obtain ⟨wy, hwy⟩ : ∃ wy, wy = w0.setCell ⟨d, 6, none⟩ (.int .i64 ((ops : Int) + 1)) := ⟨_, rfl⟩
        have hyc : Chg (fun j => j = d) w0 wy := by rw [hwy]; exact setCell_chg _ _ _ _
        have hyd : wy.heap[d]? = some (.cells (dvF vl gn np cn vw ao no 1 fz false (ops + 1)) 85 (0, 0)) := by
          rw [hwy, HO.out, blk_setCell D1.out]
          rfl
        have HF' := Lib.hid (show (if x.fuse > 0 then x.fuse - 1 else x.fuse) = max fz (-1) ∧ -9223372036854775808 ≤ fz ∧ fz ≤ 9223372036854775807 by have := D13.out; have := D14.out; have := HNEG.out; omega)
        rw [← hwy]
        clear hwy gd fd' g0 g2 f2
        have HOUT := Lib.hid (show x.out = c.toNat % 3 by unfold P.Dv.out; rw [if_neg HFU.out, HNIL.out]; rfl)
        have HOP := Lib.hid (show x.op = { x with ops := x.ops + 1, fuse := if x.fuse > 0 then x.fuse - 1 else x.fuse, outs := outs } by unfold P.Dv.op; rw [if_neg HFU.out, HNIL.out]; rfl)
        have hd6 := D6.out
        rw [HNIL.out] at hd6
        have hnn : 0 < no := by have := hd6.1; simp at this; omega
        obtain ⟨p, hap, hcp⟩ := hd6.at 0 (by simp)
        subst hap
        have hcp0 : w0.cell? p = some (.int .u8 (c.toNat : Int)) := by
          have e : p.add 0 = p := by unfold Addr.add; split <;> simp_all
          rw [e] at hcp
          exact hcp
        have hpd0 : p.block ≠ d := fun e => by
          have := (D8.out.2 hnn p rfl).1
          rw [e, tagA_cells D1.out] at this
          simp at this
        have hcpy : wy.cell? p = some (.int .u8 (c.toNat : Int)) := (World.cell?_of_block (w := w0) (hyc.block _ (lt_of_cell hcp0) hpd0)).trans hcp0
        have k0y := (hyc.block _ (lt_of_block K0.out) (Ne.symm n0)).trans K0.out
        have gdy := cell_blk hyd
        have fdy := free_blk hyd
        have g0y := cell_blk k0y
        unfold dvF at gdy
        have u1 : (0 : Int) < (no : Int) := by omega
        have u2 : (no : Int) ≤ (1 : Int) := by have := D7.out; omega
        have u3 : (1 : Int) ≤ (no : Int) := by omega
        have u5 : (1 : Int) ≤ (1 : Int) := by omega
        have HYD := Lib.hid hyd
        have HYC := Lib.hid hyc
        have HNN := Lib.hid hnn
        clear hcp hcp0 hpd0 hd6 k0y hyd hyc
        go_wp2_with fail
        go_still_tail 8, (by kernel_rfl)
        change wpList _ _ _ _ _ wy.drew
        have fdz : ∀ i, wy.drew.frozen? ⟨d, i, none⟩ = false := fdy
        have hcz : wy.drew.cell? ⟨d, 3, none⟩ = some (.slice (some p) no 1) := gdy 3
        generalize hwz : wy.drew = wz at fdz hcz ⊢
        clear gdy fdy
        go_wp2_with fail
        generalize hwx : World.setCell _ ⟨d, 3, none⟩ _ = wx
        have hxc : Chg (fun j => j = d) w0 wx := by
          rw [← hwx, ← hwz]
          exact (Chg.drew HYC.out).setCell _ _ (.inr rfl)
        have hcl := D6.out
        rw [HNIL.out] at hcl
        have hlen := hcl.1
        simp at hlen
        have hre : DvIs B wx d np x.op ∧ Ty B devT w0 wx := by
          rw [HOP.out]
          have hx : ∃ q : Addr, (q = p.add 1 ∨ no = 1) ∧ q.block = p.block ∧ wx.heap[d]? = some (.cells (dvF vl gn np cn vw (some q) (no - 1) (1 - 1) fz false (ops + 1)) 85 (0, 0)) := by
            have hz : wz.heap[d]? = some (.cells (dvF vl gn np cn vw (some p) no 1 fz false (ops + 1)) 85 (0, 0)) := by rw [← hwz]; exact HYD.out
            exact ⟨p, .inr U6.out, rfl, by have := U6.out; rw [← hwx, blk_setCell hz, show no - 1 = 0 by omega]; simp [dvF]⟩
          obtain ⟨q, hq, hqb, hxd⟩ := hx
          refine DvIs.re (x' := { x with ops := x.ops + 1, fuse := if x.fuse > 0 then x.fuse - 1 else x.fuse, outs := outs }) H0.out (by have := D1.out; rw [HDD.out]; exact this) hxc (by rw [HO.out] at hxd; rw [HDD.out]; exact hxd) ⟨rfl, rfl, rfl⟩ ?_ (by have := D7.out; omega) ⟨D8.out.1, fun _ r e => by cases e; rw [hqb]; exact D8.out.2 HNN.out p rfl⟩ ⟨by simp, by have := HOPS.out; show x.ops + 1 ≤ 1000000; omega⟩ HF'.out.1 HF'.out.2
          refine ⟨by show outs.length = no - 1; omega, by have := hcl.2.1; omega, fun i hi => ⟨q, rfl, ?_⟩⟩
          have hi' : i < outs.length := hi
          rcases hq with rfl | hq
          · obtain ⟨r, e', hr⟩ := hcl.2.2 (i + 1) (by simp; omega)
            cases e'
            rw [Addr.add_add, show 1 + i = i + 1 by omega, hr]
            rfl
          · omega
        have HRE := Lib.hid hre
        have Q4 := Lib.hid ((hxc.block _ (by have := HZ.out; omega) (by omega)).trans K2.out)
        have HD := Lib.hid (HDO.out wx ((Ty.of_below HB0.out).trans hre.2) (by have := hxc.size; have := HZ.out; omega) hre.1)
        rw [HOUT.out] at HD
        clear hwx hxc hre hwz fdz hcz hcpy hcl hlen
        go_wp2_with fail
        rw [HEN.out, Oper.upon_enter]
        refine HD.out.mono ?_
        rintro e w1 ⟨hR, ⟨k, rfl⟩, hty⟩
        have q5 := hty.cells Q4.out (.inr hU)
        have HE := Lib.hid (show OpC B d np x R w (.returned (.int .i64 k)) (w1.setCell ⟨w.heap.size + 2, 0, none⟩ (.int .i64 k)) from
          ⟨wx, w1, k, (Ty.of_below HB0.out).trans HRE.out.2, HRE.out.1, hR, rfl, (Ty.refl _ _ _).setCell _ _ (.inr ⟨Nat.le_add_right _ _, _, tagA_cells q5, rfl⟩), by have := HRE.out.2.size; have := HZ.out; omega⟩)
        have z5 := cell_blk q5
        have f5 := free_blk q5
        have hcz := cell_blk (blk_setCell q5 0 (.int .i64 k))
        clear hR hty q5
        go_wp2
        refine leaves_cons (f := 84) (args := #[.pointer (some ⟨w.heap.size, 0, none⟩), .pointer (some ⟨w.heap.size + 2, 0, none⟩), .pointer (some ⟨w.heap.size + 1, 0, none⟩)]) (by simp) (by simp [go_sem]) ?_
        refine (op1_idle _ _ _ _).mono ?_
        rintro e u' w'' ⟨rfl, rfl, rfl⟩
        have HR := HE.out
        simp [Leaves, settle, results, Tryz.results70, go_sem, hcz]
        exact HR
      · go_enter_defers Tryz.func70, Tryz.ntmps70
        go_wp2_with fail
        rw [← hw0]
        refine (HM.out _ H0.out).mono ?_
        rintro e w1 ⟨rfl, rfl⟩
        clear hw0
        go_upto_region 11 with (fail)
        obtain ⟨wy, hwy⟩ : ∃ wy, wy = w0.setCell ⟨d, 6, none⟩ (.int .i64 ((ops : Int) + 1)) := ⟨_, rfl⟩
        have hyc : Chg (fun j => j = d) w0 wy := by rw [hwy]; exact setCell_chg _ _ _ _
        have hyd : wy.heap[d]? = some (.cells (dvF vl gn np cn vw ao no co fz false (ops + 1)) 85 (0, 0)) := by
          rw [hwy, HO.out, blk_setCell D1.out]
          rfl
        have HF' := Lib.hid (show (if x.fuse > 0 then x.fuse - 1 else x.fuse) = max fz (-1) ∧ -9223372036854775808 ≤ fz ∧ fz ≤ 9223372036854775807 by have := D13.out; have := D14.out; have := HNEG.out; omega)
        rw [← hwy]
        clear hwy gd fd' g0 g2 f2
        have HOUT := Lib.hid (show x.out = c.toNat % 3 by unfold P.Dv.out; rw [if_neg HFU.out, HNIL.out]; rfl)
        have HOP := Lib.hid (show x.op = { x with ops := x.ops + 1, fuse := if x.fuse > 0 then x.fuse - 1 else x.fuse, outs := outs } by unfold P.Dv.op; rw [if_neg HFU.out, HNIL.out]; rfl)
        have hd6 := D6.out
        rw [HNIL.out] at hd6
        have hnn : 0 < no := by have := hd6.1; simp at this; omega
        obtain ⟨p, hap, hcp⟩ := hd6.at 0 (by simp)
        subst hap
        have hcp0 : w0.cell? p = some (.int .u8 (c.toNat : Int)) := by
          have e : p.add 0 = p := by unfold Addr.add; split <;> simp_all
          rw [e] at hcp
          exact hcp
        have hpd0 : p.block ≠ d := fun e => by
          have := (D8.out.2 hnn p rfl).1
          rw [e, tagA_cells D1.out] at this
          simp at this
        have hcpy : wy.cell? p = some (.int .u8 (c.toNat : Int)) := (World.cell?_of_block (w := w0) (hyc.block _ (lt_of_cell hcp0) hpd0)).trans hcp0
        have k0y := (hyc.block _ (lt_of_block K0.out) (Ne.symm n0)).trans K0.out
        have gdy := cell_blk hyd
        have fdy := free_blk hyd
        have g0y := cell_blk k0y
        unfold dvF at gdy
        have u1 : (0 : Int) < (no : Int) := by omega
        have u2 : (no : Int) ≤ (co : Int) := by have := D7.out; omega
        have u3 : (1 : Int) ≤ (no : Int) := by omega
        have u5 : (1 : Int) ≤ (co : Int) := by omega
        have HYD := Lib.hid hyd
        have HYC := Lib.hid hyc
        have HNN := Lib.hid hnn
        clear hcp hcp0 hpd0 hd6 k0y hyd hyc
        go_wp2_with fail
        go_still_tail 8, (by kernel_rfl)
        change wpList _ _ _ _ _ wy.drew
        have fdz : ∀ i, wy.drew.frozen? ⟨d, i, none⟩ = false := fdy
        have hcz : wy.drew.cell? ⟨d, 3, none⟩ = some (.slice (some p) no co) := gdy 3
        generalize hwz : wy.drew = wz at fdz hcz ⊢
        clear gdy fdy
        go_wp2_with fail
        generalize hwx : World.setCell _ ⟨d, 3, none⟩ _ = wx
        have hxc : Chg (fun j => j = d) w0 wx := by
          rw [← hwx, ← hwz]
          exact (Chg.drew HYC.out).setCell _ _ (.inr rfl)
        have hcl := D6.out
        rw [HNIL.out] at hcl
        have hlen := hcl.1
        simp at hlen
        have hre : DvIs B wx d np x.op ∧ Ty B devT w0 wx := by
          rw [HOP.out]
          have hx : ∃ q : Addr, (q = p.add 1 ∨ no = 1) ∧ q.block = p.block ∧ wx.heap[d]? = some (.cells (dvF vl gn np cn vw (some q) (no - 1) (co - 1) fz false (ops + 1)) 85 (0, 0)) := by
            have hz : wz.heap[d]? = some (.cells (dvF vl gn np cn vw (some p) no co fz false (ops + 1)) 85 (0, 0)) := by rw [← hwz]; exact HYD.out
            exact ⟨p.add 1, .inl rfl, add_block p 1, by rw [← hwx, blk_setCell hz]; simp [dvF, Addr.add]⟩
          obtain ⟨q, hq, hqb, hxd⟩ := hx
          refine DvIs.re (x' := { x with ops := x.ops + 1, fuse := if x.fuse > 0 then x.fuse - 1 else x.fuse, outs := outs }) H0.out (by have := D1.out; rw [HDD.out]; exact this) hxc (by rw [HO.out] at hxd; rw [HDD.out]; exact hxd) ⟨rfl, rfl, rfl⟩ ?_ (by have := D7.out; omega) ⟨D8.out.1, fun _ r e => by cases e; rw [hqb]; exact D8.out.2 HNN.out p rfl⟩ ⟨by simp, by have := HOPS.out; show x.ops + 1 ≤ 1000000; omega⟩ HF'.out.1 HF'.out.2
          refine ⟨by show outs.length = no - 1; omega, by have := hcl.2.1; omega, fun i hi => ⟨q, rfl, ?_⟩⟩
          have hi' : i < outs.length := hi
          rcases hq with rfl | hq
          · obtain ⟨r, e', hr⟩ := hcl.2.2 (i + 1) (by simp; omega)
            cases e'
            rw [Addr.add_add, show 1 + i = i + 1 by omega, hr]
            rfl
          · omega
        have HRE := Lib.hid hre
        have Q4 := Lib.hid ((hxc.block _ (by have := HZ.out; omega) (by omega)).trans K2.out)
        have HD := Lib.hid (HDO.out wx ((Ty.of_below HB0.out).trans hre.2) (by have := hxc.size; have := HZ.out; omega) hre.1)
        rw [HOUT.out] at HD
        clear hwx hxc hre hwz fdz hcz hcpy hcl hlen
        go_wp2_with fail
        rw [HEN.out, Oper.upon_enter]
        refine HD.out.mono ?_
        rintro e w1 ⟨hR, ⟨k, rfl⟩, hty⟩
        have q5 := hty.cells Q4.out (.inr hU)
        have HE := Lib.hid (show OpC B d np x R w (.returned (.int .i64 k)) (w1.setCell ⟨w.heap.size + 2, 0, none⟩ (.int .i64 k)) from
          ⟨wx, w1, k, (Ty.of_below HB0.out).trans HRE.out.2, HRE.out.1, hR, rfl, (Ty.refl _ _ _).setCell _ _ (.inr ⟨Nat.le_add_right _ _, _, tagA_cells q5, rfl⟩), by have := HRE.out.2.size; have := HZ.out; omega⟩)
        have z5 := cell_blk q5
        have f5 := free_blk q5
        have hcz := cell_blk (blk_setCell q5 0 (.int .i64 k))
        clear hR hty q5
        go_wp2
        refine leaves_cons (f := 84) (args := #[.pointer (some ⟨w.heap.size, 0, none⟩), .pointer (some ⟨w.heap.size + 2, 0, none⟩), .pointer (some ⟨w.heap.size + 1, 0, none⟩)]) (by simp) (by simp [go_sem]) ?_
        refine (op1_idle _ _ _ _).mono ?_
        rintro e u' w'' ⟨rfl, rfl, rfl⟩
        have HR := HE.out
        simp [Leaves, settle, results, Tryz.results70, go_sem, hcz]
        exact HR
  · have HNEG := Lib.hid hneg
    have z2 : decide (0 < fz) = true := decide_eq_true hneg
    have z3 : fz ≤ 9223372036854775807 := by have := D14.out; omega
    clear hneg
    rcases ho : x.outs with _ | ⟨c, outs⟩
    · have HNIL := Lib.hid ho
      clear ho
      go_enter_defers Tryz.func70, Tryz.ntmps70
      go_wp2_with fail
      rw [← hw0]
      refine (HM.out _ H0.out).mono ?_
      rintro e w1 ⟨rfl, rfl⟩
      clear hw0
      go_upto_region 10 with (fail)
      obtain ⟨wt, hwt⟩ : ∃ wt, wt = w0.setCell ⟨d, 6, none⟩ (.int .i64 ((ops : Int) + 1)) := ⟨_, rfl⟩
      have htc : Chg (fun j => j = d) w0 wt := by rw [hwt]; exact setCell_chg _ _ _ _
      have htd : wt.heap[d]? = some (.cells (dvF vl gn np cn vw ao no co fz false (ops + 1)) 85 (0, 0)) := by
        rw [hwt, HO.out, blk_setCell D1.out]
        rfl
      have gdt := cell_blk htd
      have fdt := free_blk htd
      have k0t := (htc.block _ (lt_of_block K0.out) (Ne.symm n0)).trans K0.out
      have g0t := cell_blk k0t
      unfold dvF at gdt
      rw [← hwt]
      clear hwt gd fd' g0 g2 f2
      go_upto_region 11 with (fail)
      have hwr : wrap64 (fz - 1) = fz - 1 := by
        have := D14.out
        have := HNEG.out
        unfold wrap64
        omega
      rw [hwr]
      clear hwr
      obtain ⟨wy, hwy⟩ : ∃ wy, wy = wt.setCell ⟨d, 4, none⟩ (.int .i64 (fz - 1)) := ⟨_, rfl⟩
      have hyc : Chg (fun j => j = d) w0 wy := by rw [hwy]; exact htc.setCell _ _ (.inr rfl)
      have hyd : wy.heap[d]? = some (.cells (dvF vl gn np cn vw ao no co (fz - 1) false (ops + 1)) 85 (0, 0)) := by
        rw [hwy, blk_setCell htd]
        rfl
      have HF' := Lib.hid (show (if x.fuse > 0 then x.fuse - 1 else x.fuse) = max (fz - 1) (-1) ∧ -9223372036854775808 ≤ fz - 1 ∧ fz - 1 ≤ 9223372036854775807 by have := D13.out; have := D14.out; have := HNEG.out; omega)
      rw [← hwy]
      clear hwy gdt fdt g0t htc htd k0t
      have HOUT := Lib.hid (show x.out = 0 by unfold P.Dv.out; rw [if_neg HFU.out, HNIL.out]; rfl)
      have HOP := Lib.hid (show x.op = { x with ops := x.ops + 1, fuse := if x.fuse > 0 then x.fuse - 1 else x.fuse } by unfold P.Dv.op; rw [if_neg HFU.out, HNIL.out]; rfl)
      have hre : DvIs B wy d np x.op ∧ Ty B devT w0 wy := by
        rw [HOP.out]
        refine DvIs.re (x' := { x with ops := x.ops + 1, fuse := if x.fuse > 0 then x.fuse - 1 else x.fuse }) H0.out (by have := D1.out; rw [HDD.out]; exact this) hyc (by rw [HO.out] at hyd; rw [HDD.out]; exact hyd) ⟨rfl, rfl, rfl⟩ D6.out D7.out D8.out ⟨by simp, by have := HOPS.out; show x.ops + 1 ≤ 1000000; omega⟩ HF'.out.1 HF'.out.2
      obtain ⟨wx, hwx⟩ : ∃ wx, wx = wy := ⟨_, rfl⟩
      rw [← hwx] at hre hyc hyd ⊢
      have k0y := (hyc.block _ (lt_of_block K0.out) (Ne.symm n0)).trans K0.out
      have gdy := cell_blk hyd
      have g0y := cell_blk k0y
      unfold dvF at gdy
      have HRE := Lib.hid hre
      have Q4 := Lib.hid ((hyc.block _ (by have := HZ.out; omega) (by omega)).trans K2.out)
      have HD := Lib.hid (HDO.out wx ((Ty.of_below HB0.out).trans hre.2) (by have := hyc.size; have := HZ.out; omega) hre.1)
      rw [HOUT.out] at HD
      have hno : no = 0 := by rw [← D6.out.1, HNIL.out]; rfl
      subst hno
      clear hwx hyc hyd hre k0y
      go_wp2_with fail
      rw [HEN.out, Oper.upon_enter]
      refine HD.out.mono ?_
      rintro e w1 ⟨hR, ⟨k, rfl⟩, hty⟩
      have q5 := hty.cells Q4.out (.inr hU)
      have HE := Lib.hid (show OpC B d np x R w (.returned (.int .i64 k)) (w1.setCell ⟨w.heap.size + 2, 0, none⟩ (.int .i64 k)) from
        ⟨wx, w1, k, (Ty.of_below HB0.out).trans HRE.out.2, HRE.out.1, hR, rfl, (Ty.refl _ _ _).setCell _ _ (.inr ⟨Nat.le_add_right _ _, _, tagA_cells q5, rfl⟩), by have := HRE.out.2.size; have := HZ.out; omega⟩)
      have z5 := cell_blk q5
      have f5 := free_blk q5
      have hcz := cell_blk (blk_setCell q5 0 (.int .i64 k))
      clear hR hty q5
      go_wp2
      refine leaves_cons (f := 84) (args := #[.pointer (some ⟨w.heap.size, 0, none⟩), .pointer (some ⟨w.heap.size + 2, 0, none⟩), .pointer (some ⟨w.heap.size + 1, 0, none⟩)]) (by simp) (by simp [go_sem]) ?_
      refine (op1_idle _ _ _ _).mono ?_
      rintro e u' w'' ⟨rfl, rfl, rfl⟩
      have HR := HE.out
      simp [Leaves, settle, results, Tryz.results70, go_sem, hcz]
      exact HR
    · have HNIL := Lib.hid ho
      clear ho
      have hco : co = 1 ∨ co ≠ 1 := by omega
      rcases hco with u4 | u4
      · subst u4
        have u6 : no = 1 := by have h1 := D7.out; have h2 := D6.out.1; rw [HNIL.out] at h2; simp at h2; omega
        have U6 := Lib.hid u6
        clear u6
        go_enter_defers Tryz.func70, Tryz.ntmps70
        go_wp2_with fail
        rw [← hw0]
        refine (HM.out _ H0.out).mono ?_
        rintro e w1 ⟨rfl, rfl⟩
        clear hw0
        go_upto_region 10 with (fail)
        obtain ⟨wt, hwt⟩ : ∃ wt, wt = w0.setCell ⟨d, 6, none⟩ (.int .i64 ((ops : Int) + 1)) := ⟨_, rfl⟩
        have htc : Chg (fun j => j = d) w0 wt := by rw [hwt]; exact setCell_chg _ _ _ _
        have htd : wt.heap[d]? = some (.cells (dvF vl gn np cn vw ao no 1 fz false (ops + 1)) 85 (0, 0)) := by
          rw [hwt, HO.out, blk_setCell D1.out]
          rfl
        have gdt := cell_blk htd
        have fdt := free_blk htd
        have k0t := (htc.block _ (lt_of_block K0.out) (Ne.symm n0)).trans K0.out
        have g0t := cell_blk k0t
        unfold dvF at gdt
        rw [← hwt]
        clear hwt gd fd' g0 g2 f2
        go_upto_region 11 with (fail)
        have hwr : wrap64 (fz - 1) = fz - 1 := by
          have := D14.out
          have := HNEG.out
          unfold wrap64
          omega
        rw [hwr]
        clear hwr
        obtain ⟨wy, hwy⟩ : ∃ wy, wy = wt.setCell ⟨d, 4, none⟩ (.int .i64 (fz - 1)) := ⟨_, rfl⟩
        have hyc : Chg (fun j => j = d) w0 wy := by rw [hwy]; exact htc.setCell _ _ (.inr rfl)
        have hyd : wy.heap[d]? = some (.cells (dvF vl gn np cn vw ao no 1 (fz - 1) false (ops + 1)) 85 (0, 0)) := by
          rw [hwy, blk_setCell htd]
          rfl
        have HF' := Lib.hid (show (if x.fuse > 0 then x.fuse - 1 else x.fuse) = max (fz - 1) (-1) ∧ -9223372036854775808 ≤ fz - 1 ∧ fz - 1 ≤ 9223372036854775807 by have := D13.out; have := D14.out; have := HNEG.out; omega)
        rw [← hwy]
        clear hwy gdt fdt g0t htc htd k0t
        have HOUT := Lib.hid (show x.out = c.toNat % 3 by unfold P.Dv.out; rw [if_neg HFU.out, HNIL.out]; rfl)
        have HOP := Lib.hid (show x.op = { x with ops := x.ops + 1, fuse := if x.fuse > 0 then x.fuse - 1 else x.fuse, outs := outs } by unfold P.Dv.op; rw [if_neg HFU.out, HNIL.out]; rfl)
        have hd6 := D6.out
        rw [HNIL.out] at hd6
        have hnn : 0 < no := by have := hd6.1; simp at this; omega
        obtain ⟨p, hap, hcp⟩ := hd6.at 0 (by simp)
        subst hap
        have hcp0 : w0.cell? p = some (.int .u8 (c.toNat : Int)) := by
          have e : p.add 0 = p := by unfold Addr.add; split <;> simp_all
          rw [e] at hcp
          exact hcp
        have hpd0 : p.block ≠ d := fun e => by
          have := (D8.out.2 hnn p rfl).1
          rw [e, tagA_cells D1.out] at this
          simp at this
        have hcpy : wy.cell? p = some (.int .u8 (c.toNat : Int)) := (World.cell?_of_block (w := w0) (hyc.block _ (lt_of_cell hcp0) hpd0)).trans hcp0
        have k0y := (hyc.block _ (lt_of_block K0.out) (Ne.symm n0)).trans K0.out
        have gdy := cell_blk hyd
        have fdy := free_blk hyd
        have g0y := cell_blk k0y
        unfold dvF at gdy
        have u1 : (0 : Int) < (no : Int) := by omega
        have u2 : (no : Int) ≤ (1 : Int) := by have := D7.out; omega
        have u3 : (1 : Int) ≤ (no : Int) := by omega
        have u5 : (1 : Int) ≤ (1 : Int) := by omega
        have HYD := Lib.hid hyd
        have HYC := Lib.hid hyc
        have HNN := Lib.hid hnn
        clear hcp hcp0 hpd0 hd6 k0y hyd hyc
        go_wp2_with fail
        go_still_tail 8, (by kernel_rfl)
        change wpList _ _ _ _ _ wy.drew
        have fdz : ∀ i, wy.drew.frozen? ⟨d, i, none⟩ = false := fdy
        have hcz : wy.drew.cell? ⟨d, 3, none⟩ = some (.slice (some p) no 1) := gdy 3
        generalize hwz : wy.drew = wz at fdz hcz ⊢
        clear gdy fdy
        go_wp2_with fail
        generalize hwx : World.setCell _ ⟨d, 3, none⟩ _ = wx
        have hxc : Chg (fun j => j = d) w0 wx := by
          rw [← hwx, ← hwz]
          exact (Chg.drew HYC.out).setCell _ _ (.inr rfl)
        have hcl := D6.out
        rw [HNIL.out] at hcl
        have hlen := hcl.1
        simp at hlen
        have hre : DvIs B wx d np x.op ∧ Ty B devT w0 wx := by
          rw [HOP.out]
          have hx : ∃ q : Addr, (q = p.add 1 ∨ no = 1) ∧ q.block = p.block ∧ wx.heap[d]? = some (.cells (dvF vl gn np cn vw (some q) (no - 1) (1 - 1) (fz - 1) false (ops + 1)) 85 (0, 0)) := by
            have hz : wz.heap[d]? = some (.cells (dvF vl gn np cn vw (some p) no 1 (fz - 1) false (ops + 1)) 85 (0, 0)) := by rw [← hwz]; exact HYD.out
            exact ⟨p, .inr U6.out, rfl, by have := U6.out; rw [← hwx, blk_setCell hz, show no - 1 = 0 by omega]; simp [dvF]⟩
          obtain ⟨q, hq, hqb, hxd⟩ := hx
          refine DvIs.re (x' := { x with ops := x.ops + 1, fuse := if x.fuse > 0 then x.fuse - 1 else x.fuse, outs := outs }) H0.out (by have := D1.out; rw [HDD.out]; exact this) hxc (by rw [HO.out] at hxd; rw [HDD.out]; exact hxd) ⟨rfl, rfl, rfl⟩ ?_ (by have := D7.out; omega) ⟨D8.out.1, fun _ r e => by cases e; rw [hqb]; exact D8.out.2 HNN.out p rfl⟩ ⟨by simp, by have := HOPS.out; show x.ops + 1 ≤ 1000000; omega⟩ HF'.out.1 HF'.out.2
          refine ⟨by show outs.length = no - 1; omega, by have := hcl.2.1; omega, fun i hi => ⟨q, rfl, ?_⟩⟩
          have hi' : i < outs.length := hi
          rcases hq with rfl | hq
          · obtain ⟨r, e', hr⟩ := hcl.2.2 (i + 1) (by simp; omega)
            cases e'
            rw [Addr.add_add, show 1 + i = i + 1 by omega, hr]
            rfl
          · omega
        have HRE := Lib.hid hre
        have Q4 := Lib.hid ((hxc.block _ (by have := HZ.out; omega) (by omega)).trans K2.out)
        have HD := Lib.hid (HDO.out wx ((Ty.of_below HB0.out).trans hre.2) (by have := hxc.size; have := HZ.out; omega) hre.1)
        rw [HOUT.out] at HD
        clear hwx hxc hre hwz fdz hcz hcpy hcl hlen
        go_wp2_with fail
        rw [HEN.out, Oper.upon_enter]
        refine HD.out.mono ?_
        rintro e w1 ⟨hR, ⟨k, rfl⟩, hty⟩
        have q5 := hty.cells Q4.out (.inr hU)
        have HE := Lib.hid (show OpC B d np x R w (.returned (.int .i64 k)) (w1.setCell ⟨w.heap.size + 2, 0, none⟩ (.int .i64 k)) from
          ⟨wx, w1, k, (Ty.of_below HB0.out).trans HRE.out.2, HRE.out.1, hR, rfl, (Ty.refl _ _ _).setCell _ _ (.inr ⟨Nat.le_add_right _ _, _, tagA_cells q5, rfl⟩), by have := HRE.out.2.size; have := HZ.out; omega⟩)
        have z5 := cell_blk q5
        have f5 := free_blk q5
        have hcz := cell_blk (blk_setCell q5 0 (.int .i64 k))
        clear hR hty q5
        go_wp2
        refine leaves_cons (f := 84) (args := #[.pointer (some ⟨w.heap.size, 0, none⟩), .pointer (some ⟨w.heap.size + 2, 0, none⟩), .pointer (some ⟨w.heap.size + 1, 0, none⟩)]) (by simp) (by simp [go_sem]) ?_
        refine (op1_idle _ _ _ _).mono ?_
        rintro e u' w'' ⟨rfl, rfl, rfl⟩
        have HR := HE.out
        simp [Leaves, settle, results, Tryz.results70, go_sem, hcz]
        exact HR
      · go_enter_defers Tryz.func70, Tryz.ntmps70
        go_wp2_with fail
        rw [← hw0]
        refine (HM.out _ H0.out).mono ?_
        rintro e w1 ⟨rfl, rfl⟩
        clear hw0
        go_upto_region 10 with (fail)
        obtain ⟨wt, hwt⟩ : ∃ wt, wt = w0.setCell ⟨d, 6, none⟩ (.int .i64 ((ops : Int) + 1)) := ⟨_, rfl⟩
        have htc : Chg (fun j => j = d) w0 wt := by rw [hwt]; exact setCell_chg _ _ _ _
        have htd : wt.heap[d]? = some (.cells (dvF vl gn np cn vw ao no co fz false (ops + 1)) 85 (0, 0)) := by
          rw [hwt, HO.out, blk_setCell D1.out]
          rfl
        have gdt := cell_blk htd
        have fdt := free_blk htd
        have k0t := (htc.block _ (lt_of_block K0.out) (Ne.symm n0)).trans K0.out
        have g0t := cell_blk k0t
        unfold dvF at gdt
        rw [← hwt]
        clear hwt gd fd' g0 g2 f2
        go_upto_region 11 with (fail)
        have hwr : wrap64 (fz - 1) = fz - 1 := by
          have := D14.out
          have := HNEG.out
          unfold wrap64
          omega
        rw [hwr]
        clear hwr
        obtain ⟨wy, hwy⟩ : ∃ wy, wy = wt.setCell ⟨d, 4, none⟩ (.int .i64 (fz - 1)) := ⟨_, rfl⟩
        have hyc : Chg (fun j => j = d) w0 wy := by rw [hwy]; exact htc.setCell _ _ (.inr rfl)
        have hyd : wy.heap[d]? = some (.cells (dvF vl gn np cn vw ao no co (fz - 1) false (ops + 1)) 85 (0, 0)) := by
          rw [hwy, blk_setCell htd]
          rfl
        have HF' := Lib.hid (show (if x.fuse > 0 then x.fuse - 1 else x.fuse) = max (fz - 1) (-1) ∧ -9223372036854775808 ≤ fz - 1 ∧ fz - 1 ≤ 9223372036854775807 by have := D13.out; have := D14.out; have := HNEG.out; omega)
        rw [← hwy]
        clear hwy gdt fdt g0t htc htd k0t
        have HOUT := Lib.hid (show x.out = c.toNat % 3 by unfold P.Dv.out; rw [if_neg HFU.out, HNIL.out]; rfl)
        have HOP := Lib.hid (show x.op = { x with ops := x.ops + 1, fuse := if x.fuse > 0 then x.fuse - 1 else x.fuse, outs := outs } by unfold P.Dv.op; rw [if_neg HFU.out, HNIL.out]; rfl)
        have hd6 := D6.out
        rw [HNIL.out] at hd6
        have hnn : 0 < no := by have := hd6.1; simp at this; omega
        obtain ⟨p, hap, hcp⟩ := hd6.at 0 (by simp)
        subst hap
        have hcp0 : w0.cell? p = some (.int .u8 (c.toNat : Int)) := by
          have e : p.add 0 = p := by unfold Addr.add; split <;> simp_all
          rw [e] at hcp
          exact hcp
        have hpd0 : p.block ≠ d := fun e => by
          have := (D8.out.2 hnn p rfl).1
          rw [e, tagA_cells D1.out] at this
          simp at this
        have hcpy : wy.cell? p = some (.int .u8 (c.toNat : Int)) := (World.cell?_of_block (w := w0) (hyc.block _ (lt_of_cell hcp0) hpd0)).trans hcp0
        have k0y := (hyc.block _ (lt_of_block K0.out) (Ne.symm n0)).trans K0.out
        have gdy := cell_blk hyd
        have fdy := free_blk hyd
        have g0y := cell_blk k0y
        unfold dvF at gdy
        have u1 : (0 : Int) < (no : Int) := by omega
        have u2 : (no : Int) ≤ (co : Int) := by have := D7.out; omega
        have u3 : (1 : Int) ≤ (no : Int) := by omega
        have u5 : (1 : Int) ≤ (co : Int) := by omega
        have HYD := Lib.hid hyd
        have HYC := Lib.hid hyc
        have HNN := Lib.hid hnn
        clear hcp hcp0 hpd0 hd6 k0y hyd hyc
        go_wp2_with fail
        go_still_tail 8, (by kernel_rfl)
        change wpList _ _ _ _ _ wy.drew
        have fdz : ∀ i, wy.drew.frozen? ⟨d, i, none⟩ = false := fdy
        have hcz : wy.drew.cell? ⟨d, 3, none⟩ = some (.slice (some p) no co) := gdy 3
        generalize hwz : wy.drew = wz at fdz hcz ⊢
        clear gdy fdy
        go_wp2_with fail
        generalize hwx : World.setCell _ ⟨d, 3, none⟩ _ = wx
        have hxc : Chg (fun j => j = d) w0 wx := by
          rw [← hwx, ← hwz]
          exact (Chg.drew HYC.out).setCell _ _ (.inr rfl)
        have hcl := D6.out
        rw [HNIL.out] at hcl
        have hlen := hcl.1
        simp at hlen
        have hre : DvIs B wx d np x.op ∧ Ty B devT w0 wx := by
          rw [HOP.out]
          have hx : ∃ q : Addr, (q = p.add 1 ∨ no = 1) ∧ q.block = p.block ∧ wx.heap[d]? = some (.cells (dvF vl gn np cn vw (some q) (no - 1) (co - 1) (fz - 1) false (ops + 1)) 85 (0, 0)) := by
            have hz : wz.heap[d]? = some (.cells (dvF vl gn np cn vw (some p) no co (fz - 1) false (ops + 1)) 85 (0, 0)) := by rw [← hwz]; exact HYD.out
            exact ⟨p.add 1, .inl rfl, add_block p 1, by rw [← hwx, blk_setCell hz]; simp [dvF, Addr.add]⟩
          obtain ⟨q, hq, hqb, hxd⟩ := hx
          refine DvIs.re (x' := { x with ops := x.ops + 1, fuse := if x.fuse > 0 then x.fuse - 1 else x.fuse, outs := outs }) H0.out (by have := D1.out; rw [HDD.out]; exact this) hxc (by rw [HO.out] at hxd; rw [HDD.out]; exact hxd) ⟨rfl, rfl, rfl⟩ ?_ (by have := D7.out; omega) ⟨D8.out.1, fun _ r e => by cases e; rw [hqb]; exact D8.out.2 HNN.out p rfl⟩ ⟨by simp, by have := HOPS.out; show x.ops + 1 ≤ 1000000; omega⟩ HF'.out.1 HF'.out.2
          refine ⟨by show outs.length = no - 1; omega, by have := hcl.2.1; omega, fun i hi => ⟨q, rfl, ?_⟩⟩
          have hi' : i < outs.length := hi
          rcases hq with rfl | hq
          · obtain ⟨r, e', hr⟩ := hcl.2.2 (i + 1) (by simp; omega)
            cases e'
            rw [Addr.add_add, show 1 + i = i + 1 by omega, hr]
            rfl
          · omega
        have HRE := Lib.hid hre
        have Q4 := Lib.hid ((hxc.block _ (by have := HZ.out; omega) (by omega)).trans K2.out)
        have HD := Lib.hid (HDO.out wx ((Ty.of_below HB0.out).trans hre.2) (by have := hxc.size; have := HZ.out; omega) hre.1)
        rw [HOUT.out] at HD
        clear hwx hxc hre hwz fdz hcz hcpy hcl hlen
        go_wp2_with fail
        rw [HEN.out, Oper.upon_enter]
        refine HD.out.mono ?_
        rintro e w1 ⟨hR, ⟨k, rfl⟩, hty⟩
        have q5 := hty.cells Q4.out (.inr hU)
        have HE := Lib.hid (show OpC B d np x R w (.returned (.int .i64 k)) (w1.setCell ⟨w.heap.size + 2, 0, none⟩ (.int .i64 k)) from
          ⟨wx, w1, k, (Ty.of_below HB0.out).trans HRE.out.2, HRE.out.1, hR, rfl, (Ty.refl _ _ _).setCell _ _ (.inr ⟨Nat.le_add_right _ _, _, tagA_cells q5, rfl⟩), by have := HRE.out.2.size; have := HZ.out; omega⟩)
        have z5 := cell_blk q5
        have f5 := free_blk q5
        have hcz := cell_blk (blk_setCell q5 0 (.int .i64 k))
        clear hR hty q5
        go_wp2
        refine leaves_cons (f := 84) (args := #[.pointer (some ⟨w.heap.size, 0, none⟩), .pointer (some ⟨w.heap.size + 2, 0, none⟩), .pointer (some ⟨w.heap.size + 1, 0, none⟩)]) (by simp) (by simp [go_sem]) ?_
        refine (op1_idle _ _ _ _).mono ?_
        rintro e u' w'' ⟨rfl, rfl, rfl⟩
        have HR := HE.out
        simp [Leaves, settle, results, Tryz.results70, go_sem, hcz]
        exact HR
end Go.Proofs.YtocepcibcapfbaaGreat
