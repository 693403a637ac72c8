/- Law 9: PoolTells. -/
import Derived.Test.YtocepcibcapfbaaJ53
namespace Go.Proofs.Ytocepcibcapfbaa
set_option linter.unusedVariables false
set_option linter.unusedSimpArgs false
open Go.RowKit

theorem RB_blank (w : World) : RB (w.alloc (.cells blankP 5)) (some ⟨w.heap.size, 0, none⟩) 256 (List.replicate 256 0) := by
  have e : blankP = (bvs (List.replicate 256 0)).toArray := by
    unfold blankP bvs
    rw [List.map_replicate]
    rfl
  refine ⟨?_, fun _ p hp => ?_⟩
  · have h := Rd_lit w 5 (List.replicate 256 0) (fr := (0, 0)) (by rw [List.length_replicate]; unfold maxLen; omega)
    rw [← e, List.length_replicate] at h
    exact h
  · cases hp
    exact tagA_cells (alloc_new _ _ _ rfl)
theorem same_rb (a b : Option Addr) (la lb ca cb : Nat) (l k : List UInt8) (w : World) (hl : RB w a la l) (hk : RB w b lb k) (e : l = k) :
    Calls Try.prog 17 #[.slice a la ca, .slice b lb cb] w fun e w' => e = .returned (.bool true) ∧ Below w.heap.size w w' := by
  refine (same_any a b la lb ca cb l k w hl.1 hk.1).mono ?_
  rintro e' w' ⟨rfl, n, rfl⟩
  rw [decide_eq_true e]
  exact ⟨rfl, below_drewN (Below.refl _ _) n⟩
/-- Behind i deeds. -/
def TlR (w0 : World) (p d vb i : Nat) (wr : World) : Prop := ∃ (x : P.Po) (F : Nat → List UInt8), PoL w0.heap.size i w0 wr p d 20 8 x ∧ WtR w0.heap.size wr vb F ∧ P.Tl 8 20 x F ∧ x.d.ops ≤ 40 * i
/-- Behind k pages read back. -/
def RdR (w0 : World) (p d vb i : Nat) (F : Nat → List UInt8) (k : Nat) (wr : World) : Prop := ∃ z : P.Po, PoL w0.heap.size i w0 wr p d 20 8 z ∧ WtR w0.heap.size wr vb F ∧ z.d.well ∧ (∀ j, j < 20 → P.pgD z.d.img j = F j) ∧ z.d.ops ≤ 8020 + 2 * k
theorem RdR.below {w0 : World} {p d vb i : Nat} {F : Nat → List UInt8} {k : Nat} {wr w' : World} (h : RdR w0 p d vb i F k wr) (hb : Below wr.heap.size wr w') : RdR w0 p d vb i F k w' := by
  obtain ⟨z, h1, h2, h3⟩ := h
  exact ⟨z, (h1.below hb).pool, h2.below hb, h3⟩
theorem tl_start : P.Tl 8 20 ⟨dv0 20, []⟩ (fun m => if m < 20 then List.replicate 256 0 else []) := by
  refine ⟨⟨List.nodup_nil, fun f hf => by simp at hf, Nat.zero_le _, dv0_img 20⟩, dv0_well 20, fun f hf => by simp at hf, fun f hf => by simp at hf, fun n hn _ => ?_⟩
  show P.pgD (List.replicate (20 * 256) 0) n = if n < 20 then List.replicate 256 0 else []
  rw [if_pos hn]
  unfold P.pgD
  rw [List.drop_replicate, List.take_replicate]
  congr 1
  omega
theorem res_le8 {x : P.Po} (h : x.ok 8 20) : (x.res 20).length ≤ 8 := by
  have h1 : (x.res 20).Nodup := List.Nodup.sublist List.filter_sublist List.nodup_range
  have h2 : (x.res 20) ⊆ x.l.map (·.pg) := fun k hk => by
    unfold P.Po.res at hk
    exact P.at_isSome.1 (List.mem_filter.1 hk).2
  have h3 := h1.length_le_of_subset h2
  have h4 := h.2.2.1
  simp at h3
  omega
theorem PoL.mono {B c c' : Nat} {w0 w : World} {p d np N : Nat} {x : P.Po} (h : PoL B c w0 w p d np N x) (hc : c ≤ c') (hb : c' ≤ 1000000) : PoL B c' w0 w p d np N x := by
  obtain ⟨h1, o, h2⟩ := h
  exact ⟨h1, o, h2.mono hc hb⟩
set_option maxRecDepth 100000 in
set_option maxHeartbeats 6400000 in
theorem poolTells_walk (a : Option Addr) (n cap : Nat) (l : List Deed) (w : World) (hl : RD w a n l) (hcap : n ≤ cap) : Calls Try.prog 5 #[.slice a n cap] w fun e w' => e = .returned (.bool true) ∧ Below w.heap.size w w' := by
  have HA := Lib.hid (awake9_any w)
  have HL := Lib.hid hl
  have HLN := Lib.hid hl.len
  clear hl
  go_enter Try.func5, Try.ntmps5
  go_wp2_with fail
  refine HA.out.mono ?_
  rintro e w1 ⟨rfl, hb1⟩
  have HRM := Lib.hid (room9_any a n cap l w1 (HL.out.below hb1))
  have HB1 := Lib.hid hb1
  clear hb1
  go_wp2_with fail
  refine HRM.out.mono ?_
  rintro e w2 ⟨r, rfl, hr, hb2⟩
  have HB2 := Lib.hid (below_then HB1.out hb2 HB1.out.size)
  have HR := Lib.hid hr
  clear hr hb2
  cases r with
  | false =>
    go_wp2
    go_ret
    exact ⟨rfl, HB2.out⟩
  | true =>
    have hrm := HR.out rfl
    have hn2 : n ≤ 200 := by have := hrm.1; rw [HLN.out] at this; exact this
    have HRB := Lib.hid hrm.2
    have H1 := Lib.hid (lnew w w2 20 HB2.out (by omega) (by omega))
    clear hrm
    go_wp2_with fail
    refine H1.out.mono ?_
    rintro e w3 ⟨d, rfl, hD, hb3⟩
    have H2 := Lib.hid (lpool w w3 d 20 8 hb3 hD (by omega) (by omega) (by omega))
    clear hD hb3
    go_wp2_with fail
    refine H2.out.mono ?_
    rintro e w4 ⟨p, rfl, hP⟩
    have hmk := mk_blankW w4
    have hbl : Below w4.heap.size w4 (w4.alloc (.cells blankW 31)) := (Below.refl _ w4).alloc (Nat.le_refl _) _
    have HST := Lib.hid (And.intro (hP.below hbl).pool (WtR.new w4 hP.1.size))
    obtain ⟨vb, hvb⟩ : ∃ vb, vb = w4.heap.size := ⟨_, rfl⟩
    generalize hw5 : w4.alloc (.cells blankW 31) = w5 at *
    rw [← hvb] at hmk HST
    clear hbl hw5 hP hvb
    go_wp2
    go_loopw [8] (fun s8 wr => ∃ k : Nat, k ≤ 20 ∧ s8 = .int .i64 k ∧ PoL w.heap.size 0 w wr p d 20 8 ⟨dv0 20, []⟩ ∧ WtR w.heap.size wr vb (fun m => if m < k then List.replicate 256 0 else [])) (fun s8 _ => 20 - (ivOf s8).toNat)
    case atStart => exact ⟨0, by omega, rfl, HST.out.1, HST.out.2⟩
    case round =>
      obtain ⟨k, hk, rfl, hP, hW⟩ := hrel
      by_cases hlt : k < 20
      · have i0 : (0 : Int) ≤ (k : Int) := by omega
        have i1 : (k : Int) < 20 := by omega
        have hmk2 := mk_blankP wr
        have hbl : Below wr.heap.size wr (wr.alloc (.cells blankP 5)) := (Below.refl _ wr).alloc (Nat.le_refl _) _
        have hP2 := (hP.below hbl).pool
        have hW2 := hW.below hbl
        have hrb := RB_blank wr
        obtain ⟨g, hg⟩ : ∃ g, g = wr.heap.size := ⟨_, rfl⟩
        generalize hw6 : wr.alloc (.cells blankP 5) = w6 at *
        rw [← hg] at hmk2 hrb
        have hfr := hW2.free k
        obtain ⟨a0, m0, c0, hcl, -⟩ := hW2.at k hlt
        have HN := Lib.hid (And.intro (hP2.want hW2 k (.slice (some ⟨g, 0, none⟩) 256 256)) (hW2.set k hlt (some ⟨g, 0, none⟩) 256 256 _ hrb))
        clear hbl hP2 hW2 hrb hw6 hg hP hW
        go_wp2
        refine ⟨⟨k + 1, by omega, by go_num, HN.out.1, ?_⟩, by simp [ivOf]; omega⟩
        have e : updF (fun m => if m < k then List.replicate 256 0 else []) k (List.replicate 256 0) = fun m => if m < k + 1 then List.replicate 256 0 else [] := by
          funext m
          unfold updF
          by_cases h1 : m = k
          · subst h1
            simp
          · by_cases h2 : m < k
            · simp [h1, h2, show m < k + 1 by omega]
            · simp [h1, h2, show ¬ m < k + 1 by omega]
        rw [← e]
        exact HN.out.2
      · have e20 : k = 20 := by omega
        have e21 : (k : Int) = 20 := by omega
        rw [e20] at hW
        rw [e21]
        clear e20 e21 hlt
        have HS2 := Lib.hid (show TlR w p d vb 0 wr from ⟨_, _, hP, hW, tl_start, Nat.le_refl _⟩)
        clear hP hW
        go_wp2
        go_loopw [9] (fun s9 wr => ∃ i : Nat, i ≤ n ∧ s9 = .int .i64 i ∧ TlR w p d vb i wr) (fun s9 _ => n - (ivOf s9).toNat)
        case atStart => exact ⟨0, by omega, rfl, HS2.out⟩
        case round =>
          obtain ⟨i, hi, rfl, x, F, hP, hW, hT, ho⟩ := hrel
          by_cases hlt2 : i < n
          · have i0 : (0 : Int) ≤ (i : Int) := by omega
            have i1 : (i : Int) < (n : Int) := by omega
            have hil : i < l.length := by rw [HLN.out]; exact hlt2
            obtain ⟨q, hq, hc0, hc1, hc2, hc3, hc4⟩ := (HL.out.below hP.1).at i hil
            have hok := (HL.out.below hP.1).2 l[i] (List.getElem_mem _)
            have hrb := HRB.out l[i] (List.getElem_mem _)
            subst hq
            generalize l[i] = z at hc0 hc1 hc2 hc3 hc4 hok hrb
            obtain ⟨zd, zn, zp, zf, zb⟩ := z
            simp only at hc0 hc1 hc2 hc3 hc4
            obtain ⟨ab, mb, cb, bs, rfl, -⟩ := hok.b
            have HZ := Lib.hid (And.intro hok.d (And.intro hok.n (And.intro hok.p hrb.2)))
            clear hok hrb
            obtain ⟨wx, hwx⟩ : ∃ wx, wx = wr.alloc (.cells #[.int .i64 zd, .int .i64 zn, .int .i64 zp, .int .u8 (zf.toNat : Int), .slice ab mb cb] 43) := ⟨_, rfl⟩
            have hbl : Below wr.heap.size wr wx := by rw [hwx]; exact (Below.refl _ wr).alloc (Nat.le_refl _) _
            have hbx : wx.heap[wr.heap.size]? = some (.cells #[.int .i64 zd, .int .i64 zn, .int .i64 zp, .int .u8 (zf.toNat : Int), .slice ab mb cb] 43 (0, 0)) := by rw [hwx]; exact alloc_new _ _ _ rfl
            have hcx := cell_blk hbx
            have b0 : wx.cell? ⟨wr.heap.size, 0, none⟩ = some (.int .i64 zd) := hcx 0
            have b1 : wx.cell? ⟨wr.heap.size, 1, none⟩ = some (.int .i64 zn) := hcx 1
            have b2 : wx.cell? ⟨wr.heap.size, 2, none⟩ = some (.int .i64 zp) := hcx 2
            have b3 : wx.cell? ⟨wr.heap.size, 3, none⟩ = some (.int .u8 (zf.toNat : Int)) := hcx 3
            have HPX := Lib.hid (hP.below hbl).pool
            have HWX := Lib.hid (hW.below hbl)
            have HT := Lib.hid (And.intro hT ho)
            have HBX := Lib.hid hbx
            clear hbx hcx hP hW hT ho hbl
            by_cases hp0 : zp < 0
            · have HN := Lib.hid (show TlR w p d vb (i + 1) wx from ⟨x, F, HPX.out.mono (Nat.le_succ i) (by omega), HWX.out, HT.out.1, by have := HT.out.2; omega⟩)
              go_wp2
              rw [← hwx]
              exact ⟨⟨i + 1, by omega, by go_num, HN.out⟩, by simp [ivOf]; omega⟩
            · by_cases hp1 : 20 ≤ zp
              · have HN := Lib.hid (show TlR w p d vb (i + 1) wx from ⟨x, F, HPX.out.mono (Nat.le_succ i) (by omega), HWX.out, HT.out.1, by have := HT.out.2; omega⟩)
                have q0 : (0 : Int) ≤ zp := by omega
                clear hp0
                go_wp2
                rw [← hwx]
                exact ⟨⟨i + 1, by omega, by go_num, HN.out⟩, by simp [ivOf]; omega⟩
              · obtain ⟨m, rfl⟩ : ∃ m : Nat, zp = (m : Int) := ⟨zp.toNat, by omega⟩
                have q0 : (0 : Int) ≤ (m : Int) := by omega
                have q1 : (m : Int) < 20 := by omega
                have hm20 : m < 20 := by omega
                clear hp0 hp1
                by_cases hd4 : zd ≤ 4
                · have hpin := HT.out.1.pin (by omega) m hm20
                  have HPIN := Lib.hid (lpin HPX.out (m : Int) (by unfold inI; omega) (by have := HT.out.2; omega) (by omega) 0 _ hpin.1 rfl)
                  have o1 := P.pin_ops 8 20 x (m : Int)
                  have o2 := P.un_d (x.pinP 8 20 (m : Int)) (m : Int)
                  obtain ⟨y, hy⟩ : ∃ y, y = (x.pinP 8 20 (m : Int)).unP (m : Int) := ⟨_, rfl⟩
                  have hty := hpin.2.2.2
                  have hto : y.d.ops ≤ 40 * (i + 1) := by rw [hy, o2]; have := HT.out.2; omega
                  rw [← hy] at hty
                  have HTZ := Lib.hid (And.intro hty hto)
                  have HPI := Lib.hid (And.intro hpin.2.1 hpin.2.2.1)
                  clear hpin o1 o2 hty hto
                  go_wp2_with fail
                  rw [← hwx]
                  refine HPIN.out.mono ?_
                  rintro e w6 ⟨a6, m6, c6, rfl, hr6, -, hG6⟩
                  have hx6 := hG6.box _ _ _ HBX.out (by unfold poT devT; decide) (by decide) (by decide)
                  have hW6 := HWX.out.step hG6
                  obtain ⟨aw, mw, cw, hcw, hrw⟩ := hW6.at m hm20
                  have d2 : w6.cell? ⟨wr.heap.size, 2, none⟩ = some (.int .i64 (m : Int)) := cell_blk hx6 2
                  have HSM := Lib.hid (same_rb a6 aw m6 mw c6 cw _ _ w6 (hr6 trivial) hrw HPI.out.1)
                  have H6 := Lib.hid (And.intro hG6.pool (And.intro hW6 hx6))
                  clear hr6 hG6 hx6 hW6 hrw
                  go_wp2_with fail
                  refine HSM.out.mono ?_
                  rintro e w7 ⟨rfl, hb7⟩
                  have hG7 := H6.out.1.below hb7
                  have d7 : w7.cell? ⟨wr.heap.size, 2, none⟩ = some (.int .i64 (m : Int)) := cell_blk ((hb7.block _ (lt_of_block H6.out.2.2)).trans H6.out.2.2) 2
                  have HUN := Lib.hid (lunpin hG7.pool (m : Int) (by unfold inI; omega) 0 HPI.out.2)
                  rw [← hy] at HUN
                  have HW7 := Lib.hid (H6.out.2.1.below hb7)
                  clear hb7 hG7
                  go_wp2_with fail
                  refine HUN.out.mono ?_
                  rintro e w8 ⟨rfl, hG8⟩
                  have HWZ := Lib.hid (HW7.out.step hG8)
                  have HGP := Lib.hid hG8.pool
                  clear hG8 hy
                  have h8 := res_le8 HTZ.out.1.ok
                  have HRS := Lib.hid (lresident HGP.out)
                  obtain ⟨L, hL⟩ : ∃ L, L = (y.res 20).length := ⟨_, rfl⟩
                  rw [← hL] at h8 HRS
                  have h9 : (L : Int) ≤ 8 := by omega
                  clear hL
                  go_wp2_with fail
                  refine HRS.out.mono ?_
                  rintro e wt ⟨ar, cr, rfl, -, -, hbt⟩
                  have hG2 := HGP.out.below hbt
                  have HPN := Lib.hid (lpinned hG2.pool)
                  rw [HTZ.out.1.pinned] at HPN
                  have HP2 := Lib.hid (And.intro hG2.pool (HWZ.out.step hG2))
                  clear hbt hG2
                  go_wp2_with fail
                  refine HPN.out.mono ?_
                  rintro e wu ⟨rfl, hbu⟩
                  have hG3 := HP2.out.1.below hbu
                  have HN := Lib.hid (show TlR w p d vb (i + 1) wu from ⟨y, F, hG3.pool, HP2.out.2.step hG3, HTZ.out.1, HTZ.out.2⟩)
                  clear hbu hG3
                  go_wp2
                  exact ⟨⟨i + 1, by omega, by go_num, HN.out⟩, by simp [ivOf]; omega⟩
                · have hd5 : 4 < zd := by omega
                  clear hd4
                  by_cases hd8 : zd ≤ 8
                  · have HPG := Lib.hid (page5_any zf zn wx.drew)
                    have HKP := Lib.hid (show ∀ w', Below wx.heap.size wx w' → w'.cell? ⟨wr.heap.size, 1, none⟩ = some (.int .i64 zn) ∧ w'.cell? ⟨wr.heap.size, 2, none⟩ = some (.int .i64 (m : Int)) ∧ w'.cell? ⟨wr.heap.size, 3, none⟩ = some (.int .u8 (zf.toNat : Int)) from fun w' h =>
                      ⟨(h.cell (p := ⟨wr.heap.size, 1, none⟩) (lt_of_block HBX.out)).trans b1, (h.cell (p := ⟨wr.heap.size, 2, none⟩) (lt_of_block HBX.out)).trans b2, (h.cell (p := ⟨wr.heap.size, 3, none⟩) (lt_of_block HBX.out)).trans b3⟩)
                    go_wp2
                    rw [← hwx]
                    clear hwx
                    go_region_held3 (fun w' => w'.cell? ⟨wr.heap.size, 1, none⟩ = some (.int .i64 zn) ∧ w'.cell? ⟨wr.heap.size, 2, none⟩ = some (.int .i64 (m : Int)) ∧ w'.cell? ⟨wr.heap.size, 3, none⟩ = some (.int .u8 (zf.toNat : Int)))
                      (first
                        | (go_keep; done)
                        | exact HKP.out _ (below_of_drew HB6.out)
                        | exact HK2.out)
                      ((go_at_call 11; refine HPG.out.mono ?_; rintro e w6 ⟨a5, c5, b, rfl, hr5, hl5, -, hb6⟩; have HB6 := Lib.hid hb6; have H5 := Lib.hid (And.intro hr5 hl5); have hW6 := HWX.out.below (below_of_drew hb6); obtain ⟨aw, mw, cw, hcw, -⟩ := hW6.at m hm20; have hfw := hW6.free m; have hbw := (hW6.ty m (.slice a5 256 c5)).cells (((below_of_drew hb6).block _ (lt_of_block HBX.out)).trans HBX.out) (.inr (by decide)); have HK2 := Lib.hid (And.intro (cell_blk hbw 1) (And.intro (cell_blk hbw 2) (cell_blk hbw 3))); clear hbw hr5 hl5 hb6 hW6))
                    have hP6 := (HPX.out.below (below_of_drew HB6.out)).pool
                    have hW6 := HWX.out.below (below_of_drew HB6.out)
                    have hb6x := ((below_of_drew HB6.out).block _ (lt_of_block HBX.out)).trans HBX.out
                    have hTy := hW6.ty m (.slice a5 256 c5)
                    have hPW := hP6.want hW6 m (.slice a5 256 c5)
                    have hWW := hW6.set m hm20 a5 256 c5 b H5.out.1
                    have hRW := H5.out.1.ty hTy (by decide)
                    have hbw := hTy.cells hb6x (.inr (by decide))
                    have hat := hW6.set_at m hm20 (.slice a5 256 c5)
                    generalize World.setCell w6 ⟨vb, m, none⟩ (.slice a5 256 c5) = wy at hPW hWW hRW hbw hat ⊢
                    clear hTy hP6 hW6 hb6x
                    have hput := HT.out.1.put (by omega) m hm20 b H5.out.2
                    have o1 := P.put_ops 8 20 x (m : Int) b
                    obtain ⟨y, hy⟩ : ∃ y, y = x.putP 8 20 (m : Int) b := ⟨_, rfl⟩
                    have hto : y.d.ops ≤ 40 * (i + 1) := by rw [hy]; have := HT.out.2; omega
                    have hty := hput.2
                    have hbd : Below wy.heap.size wy wy.drew := (Below.refl _ _).drew
                    have HPUT := Lib.hid (lput (hPW.below hbd).pool (m : Int) (by unfold inI; omega) a5 256 c5 b (hRW.below hbd) (by omega) (by have := HT.out.2; omega) (by omega) 0 hput.1)
                    rw [← hy] at HPUT hty
                    have HTZ := Lib.hid (show P.Tl 8 20 y (updF F m b) ∧ y.d.ops ≤ 40 * (i + 1) from ⟨hty, hto⟩)
                    have HWY := Lib.hid (hWW.below hbd)
                    obtain ⟨aw2, mw2, cw2, hcw2, hrw2⟩ := HWY.out.at m hm20
                    have d2 : wy.drew.cell? ⟨wr.heap.size, 2, none⟩ = some (.int .i64 (m : Int)) := cell_blk hbw 2
                    have d3 : wy.drew.cell? ⟨vb, m, none⟩ = some (.slice a5 256 c5) := hat
                    clear hput o1 hto hty hbd hPW hWW hRW hbw hcw2 hrw2 hy hat
                    go_wp2
                    go_still_tail 8, (by kernel_rfl)
                    change wpList _ _ _ _ _ wy.drew
                    generalize wy.drew = wv at *
                    go_wp2_with fail
                    refine HPUT.out.mono ?_
                    rintro e w8 ⟨rfl, hG8⟩
                    have HWZ := Lib.hid (HWY.out.step hG8)
                    have HGP := Lib.hid hG8.pool
                    clear hG8
                    have h8 := res_le8 HTZ.out.1.ok
                    have HRS := Lib.hid (lresident HGP.out)
                    obtain ⟨L, hL⟩ : ∃ L, L = (y.res 20).length := ⟨_, rfl⟩
                    rw [← hL] at h8 HRS
                    have h9 : (L : Int) ≤ 8 := by omega
                    clear hL
                    go_wp2_with fail
                    refine HRS.out.mono ?_
                    rintro e wt ⟨ar, cr, rfl, -, -, hbt⟩
                    have hG2 := HGP.out.below hbt
                    have HPN := Lib.hid (lpinned hG2.pool)
                    rw [HTZ.out.1.pinned] at HPN
                    have HP2 := Lib.hid (And.intro hG2.pool (HWZ.out.step hG2))
                    clear hbt hG2
                    go_wp2_with fail
                    refine HPN.out.mono ?_
                    rintro e wu ⟨rfl, hbu⟩
                    have hG3 := HP2.out.1.below hbu
                    have HN := Lib.hid (show TlR w p d vb (i + 1) wu from ⟨y, (updF F m b), hG3.pool, HP2.out.2.step hG3, HTZ.out.1, HTZ.out.2⟩)
                    clear hbu hG3
                    go_wp2
                    exact ⟨⟨i + 1, by omega, by go_num, HN.out⟩, by simp [ivOf]; omega⟩
                  · have hd9 : 8 < zd := by omega
                    clear hd8
                    have HPX1 := Lib.hid (HPX.out.mono (Nat.le_succ i) (by omega))
                    by_cases hz9 : zd = 9
                    · subst hz9
                      have hfl := HT.out.1.flushed
                      have HFL := Lib.hid (lflush HPX1.out (by have := HT.out.2; omega) 0 hfl.1)
                      have o1 := P.flush_ops (x.dirt 20) x
                      have o2 := P.dirt_len 20 x
                      obtain ⟨y, hy⟩ : ∃ y, y = P.flushP (x.dirt 20) x := ⟨_, rfl⟩
                      have hto : y.d.ops ≤ 40 * (i + 1) := by rw [hy]; have := HT.out.2; omega
                      have hty := hfl.2.1
                      have hdi := hfl.2.2.1
                      rw [← hy] at HFL hty hdi
                      have HTZ := Lib.hid (And.intro hty hto)
                      have HDI := Lib.hid hdi
                      clear hfl o1 o2 hto hty hdi hy
                      go_wp2_with fail
                      rw [← hwx]
                      refine HFL.out.mono ?_
                      rintro e w6 ⟨rfl, hG6⟩
                      have HDT := Lib.hid (ldirty hG6.pool)
                      rw [HDI.out] at HDT
                      have H6 := Lib.hid (And.intro hG6.pool (HWX.out.step hG6))
                      clear hG6
                      go_wp2_with fail
                      refine HDT.out.mono ?_
                      rintro e w8 ⟨a8, c8, rfl, -, -, hb8⟩
                      have HWZ := Lib.hid (H6.out.2.below hb8)
                      have HGP := Lib.hid (H6.out.1.below hb8).pool
                      clear hb8
                      have h8 := res_le8 HTZ.out.1.ok
                      have HRS := Lib.hid (lresident HGP.out)
                      obtain ⟨L, hL⟩ : ∃ L, L = (y.res 20).length := ⟨_, rfl⟩
                      rw [← hL] at h8 HRS
                      have h9 : (L : Int) ≤ 8 := by omega
                      clear hL
                      go_wp2_with fail
                      refine HRS.out.mono ?_
                      rintro e wt ⟨ar, cr, rfl, -, -, hbt⟩
                      have hG2 := HGP.out.below hbt
                      have HPN := Lib.hid (lpinned hG2.pool)
                      rw [HTZ.out.1.pinned] at HPN
                      have HP2 := Lib.hid (And.intro hG2.pool (HWZ.out.step hG2))
                      clear hbt hG2
                      go_wp2_with fail
                      refine HPN.out.mono ?_
                      rintro e wu ⟨rfl, hbu⟩
                      have hG3 := HP2.out.1.below hbu
                      have HN := Lib.hid (show TlR w p d vb (i + 1) wu from ⟨y, F, hG3.pool, HP2.out.2.step hG3, HTZ.out.1, HTZ.out.2⟩)
                      clear hbu hG3
                      go_wp2
                      exact ⟨⟨i + 1, by omega, by go_num, HN.out⟩, by simp [ivOf]; omega⟩
                    · have hev := HT.out.1.evict zn.toNat
                      have HEV := Lib.hid (levict HPX1.out zn (by have h7 : zn ≤ 1048576 := HZ.out.2.2.2; omega) (by have := HT.out.2; omega) 0 hev.1)
                      have o1 := P.ev_ops zn.toNat HT.out.1.ok
                      have o2 := HT.out.1.ok.2.2.1
                      obtain ⟨y, hy⟩ : ∃ y, y = P.evP zn.toNat x := ⟨_, rfl⟩
                      have hto : y.d.ops ≤ 40 * (i + 1) := by rw [hy]; have := HT.out.2; omega
                      have hty := hev.2
                      rw [← hy] at HEV hty
                      have HTZ := Lib.hid (And.intro hty hto)
                      clear hev o1 o2 hto hty hy
                      go_wp2_with fail
                      rw [← hwx]
                      refine HEV.out.mono ?_
                      rintro e w8 ⟨rfl, hG8⟩
                      have HWZ := Lib.hid (HWX.out.step hG8)
                      have HGP := Lib.hid hG8.pool
                      clear hG8
                      have h8 := res_le8 HTZ.out.1.ok
                      have HRS := Lib.hid (lresident HGP.out)
                      obtain ⟨L, hL⟩ : ∃ L, L = (y.res 20).length := ⟨_, rfl⟩
                      rw [← hL] at h8 HRS
                      have h9 : (L : Int) ≤ 8 := by omega
                      clear hL
                      go_wp2_with fail
                      refine HRS.out.mono ?_
                      rintro e wt ⟨ar, cr, rfl, -, -, hbt⟩
                      have hG2 := HGP.out.below hbt
                      have HPN := Lib.hid (lpinned hG2.pool)
                      rw [HTZ.out.1.pinned] at HPN
                      have HP2 := Lib.hid (And.intro hG2.pool (HWZ.out.step hG2))
                      clear hbt hG2
                      go_wp2_with fail
                      refine HPN.out.mono ?_
                      rintro e wu ⟨rfl, hbu⟩
                      have hG3 := HP2.out.1.below hbu
                      have HN := Lib.hid (show TlR w p d vb (i + 1) wu from ⟨y, F, hG3.pool, HP2.out.2.step hG3, HTZ.out.1, HTZ.out.2⟩)
                      clear hbu hG3
                      go_wp2
                      exact ⟨⟨i + 1, by omega, by go_num, HN.out⟩, by simp [ivOf]; omega⟩
          · obtain rfl : i = n := by omega
            have hfl := hT.flushed
            have HFL := Lib.hid (lflush hP (by omega) 0 hfl.1)
            have o1 := P.flush_ops (x.dirt 20) x
            have o2 := P.dirt_len 20 x
            obtain ⟨y, hy⟩ : ∃ y, y = P.flushP (x.dirt 20) x := ⟨_, rfl⟩
            have hto : y.d.ops ≤ 8020 := by rw [hy]; omega
            have hty := hfl.2.1
            have hpg := hfl.2.2.2
            rw [← hy] at HFL hty hpg
            have HY := Lib.hid (And.intro hty.well (And.intro hpg hto))
            have HW := Lib.hid hW
            clear hfl o1 o2 hto hty hpg hy hP hW hT ho
            go_wp2_with fail
            refine HFL.out.mono ?_
            rintro e w6 ⟨rfl, hG6⟩
            have HS6 := Lib.hid (show RdR w p d vb i F 0 w6 from ⟨y, hG6.pool, HW.out.step hG6, HY.out.1, HY.out.2.1, HY.out.2.2⟩)
            clear hG6
            go_wp2
            go_loopw [13] (fun s13 wr => ∃ k : Nat, k ≤ 20 ∧ s13 = .int .i64 k ∧ RdR w p d vb i F k wr) (fun s13 _ => 20 - (ivOf s13).toNat)
            case atStart => exact ⟨0, by omega, rfl, HS6.out⟩
            case round =>
              obtain ⟨k3, hk3, rfl, z, hP, hW, hwl, hpg, hop⟩ := hrel
              by_cases hlt3 : k3 < 20
              · have i0 : (0 : Int) ≤ (k3 : Int) := by omega
                have i1 : (k3 : Int) < 20 := by omega
                have HRD := Lib.hid (lread hP hwl k3 hlt3 (by omega))
                rw [hpg k3 hlt3] at HRD
                have HZ := Lib.hid (And.intro hW (And.intro hwl (And.intro hpg hop)))
                clear hP hW hwl hpg hop
                go_wp2_with fail
                refine HRD.out.mono ?_
                rintro e w7 ⟨a7, m7, c7, rfl, hr7, hG7⟩
                have hW7 := HZ.out.1.step hG7
                obtain ⟨aw, mw, cw, hcw, hrw⟩ := hW7.at k3 hlt3
                have HSM := Lib.hid (same_rb a7 aw m7 mw c7 cw _ _ w7 hr7 hrw rfl)
                have r1 := P.Dv.well_rd HZ.out.2.1
                have r2 := z.d.rd_ops
                have r3 := P.Dv.rd_well HZ.out.2.1
                have H7 := Lib.hid (show RdR w p d vb i F (k3 + 1) w7 from ⟨⟨z.d.rdD, z.l⟩, hG7.pool, hW7, r3, fun j hj => by
                  show P.pgD z.d.rdD.img j = F j
                  rw [r1.2]
                  exact HZ.out.2.2.1 j hj, by have := HZ.out.2.2.2; show z.d.rdD.ops ≤ _; omega⟩)
                clear hr7 hG7 hW7 hrw r1 r2 r3
                go_wp2_with fail
                refine HSM.out.mono ?_
                rintro e w8 ⟨rfl, hb8⟩
                have HN := Lib.hid (H7.out.below hb8)
                clear hb8
                go_wp2
                exact ⟨⟨k3 + 1, by omega, by go_num, HN.out⟩, by simp [ivOf]; omega⟩
              · obtain rfl : k3 = 20 := by omega
                have HB := Lib.hid hP.1
                clear hP hW hwl hpg hop
                go_wp2
                go_ret
                exact ⟨rfl, HB.out⟩
end Go.Proofs.Ytocepcibcapfbaa
