/- The walk of chapter 7: Encode, of a superblock that may be. -/
import Derived.Test.YtpdmhnppibfmkaaSpF
import Derived.Deep.OwnRows
namespace Go.Proofs.Ytpdmhnppibfmkaa
set_option linter.unusedVariables false
set_option linter.unusedSimpArgs false
open Go.RowKit

theorem put_part (n : Nat) (x : Int) (h1 : 1 ≤ n) (h2 : n ≤ 8) (h3 : 0 ≤ x) (h4 : x ≤ 1152921504606846976) (h5 : x < 256 ^ n) : P.put (List.replicate n 0) 0 (n : Int) x = some (P.be n x.toNat) := by
  have h := put_zeros (n : Int) x (by omega) (by omega) h3 (by omega) (by simpa using h5)
  simpa using h

/-- A row of noughts, just made. -/
def zrow (n : Nat) : Array Value := (bvs (List.replicate n 0)).toArray
theorem Rd_z (w : World) (t : TypeId) (n : Nat) (hn : n ≤ maxLen) : Rd (w.alloc (.cells (zrow n) t)) (some ⟨w.heap.size, 0, none⟩) n (List.replicate n 0) := by
  have h := Rd_lit w t (List.replicate n (0 : UInt8)) (fr := (0, 0)) (by simpa using hn)
  unfold zrow
  simpa using h
set_option maxRecDepth 100000 in
theorem make_z (n : Nat) (hn : n ≤ 140737488355328) (w : World) : (Instr.makeSlice 24 (.int .i64 (n : Int)) (.int .i64 (n : Int))).run Try.prog w = .ok (.slice (some ⟨w.heap.size, 0, none⟩) n n) (w.alloc (.cells (zrow n) 5)) := by
  have h := run_make_row' (P := Try.prog) 24 5 (.int .u8 0) 1 Try.underlying24 u8_info rfl .i64 .i64 n (by omega) (by omega) w
  rw [h]
  congr 3
  apply Array.ext'
  rw [toList_madeCells_one]
  simp [zrow, bvs, bv]

set_option maxRecDepth 100000 in
set_option maxHeartbeats 6400000 in
theorem enc_ok (x : P.Sup) (w : World) (he : x.chk = 0) :
    Calls Try.prog 18 #[supV x] w fun e w' => ∃ v, e = .returned (.tuple #[v, .int .i64 0]) ∧ OB w' w.heap.size v x.page ∧ Below w.heap.size w w' := by
  have hpg : x.page = P.sealB 1 0 0 x.body := by
    unfold P.Sup.page P.sealB
    rw [if_pos he, if_pos (by rw [x.body_length]; decide)]
    rfl
  have hse : P.sealErr 1 0 0 x.body.length = 0 := by rw [x.body_length]; decide
  have hbl := x.body_length
  rw [hpg]
  clear hpg
  obtain ⟨BL, hBL⟩ : ∃ BL, BL = x.body := ⟨_, rfl⟩
  rw [← hBL] at hse hbl ⊢
  rw [← part_all] at hBL
  have HV := Lib.hid (val_ok he)
  have HA := Lib.hid (supC_at x)
  have HP := Lib.hid (part_length x)
  have HC := fun w => chk_any x w
  rw [he] at HC
  obtain ⟨C, hC⟩ : ∃ C, C = supC x := ⟨_, rfl⟩
  have hV : supV x = .agg #[.int .i64 x.g, .int .i64 x.p, .int .i64 x.r, .int .i64 x.h, .int .i64 x.b, .int .i64 x.l, .int .i64 x.s, .int .i64 x.f] := rfl
  rw [hV] at HC ⊢
  have hC' : C = #[.int .i64 x.g, .int .i64 x.p, .int .i64 x.r, .int .i64 x.h, .int .i64 x.b, .int .i64 x.l, .int .i64 x.s, .int .i64 x.f] := hC
  have HC := Lib.hid HC
  have HBL := Lib.hid hBL
  have HSE := Lib.hid hse
  have HCC := Lib.hid hC
  have HCC' := Lib.hid hC'
  clear he hBL hse hC hC' hV
  go_enter Try.func18, Try.ntmps18
  go_wp2_with fail
  refine (HC.out _).mono ?_
  rintro e w0 ⟨rfl, hbZ⟩
  have hB0 := made_below hbZ
  have hbA := below_alloc1 hbZ
  have hlt0 : w.heap.size < w0.heap.size := by have := hbZ.size; simp at this; omega
  rw [← HCC'.out, HCC.out] at hB0
  have HB0 := Lib.hid hB0
  clear hB0 hbZ
  go_wp2_with fail
  refine (fields_any _ _).mono ?_
  rintro e wf ⟨g, rfl, hgl, ⟨tf, hgf⟩, hbf⟩
  have hsf := hbf.size
  have hBf : wf.heap[w.heap.size]? = _ := (hbf.block _ hlt0).trans HB0.out
  have hltf : w.heap.size < wf.heap.size := by omega
  have hgf' : g < wf.heap.size := lt_of_block hgf
  have HBf := Lib.hid hBf
  have HGF := Lib.hid hgf
  clear hBf hgf
  go_wp2
  go_loopw [5, 17] (fun v i wr => ∃ j : Nat, j ≤ 8 ∧ i = .int .i64 j ∧ (∃ a n c, v = .slice a n c) ∧ OB wr wf.heap.size v (part x j) ∧ Below wf.heap.size wf wr) (fun v i _ => 8 - (intOf i).toNat)
  case atStart => exact ⟨0, by omega, rfl, ⟨_, _, _, rfl⟩, OB.nil _ _, Below.refl _ _⟩
  case round =>
    obtain ⟨j, hj, rfl, ⟨av, nv, cv, rfl⟩, ho, hbr⟩ := hrel
    have hsr := hbr.size
    have HO := Lib.hid ho
    clear ho
    by_cases hlt : j < 8
    · obtain ⟨F0, F1, F2⟩ := fields_at w.heap.size j hlt
      have hgr : wr.heap[g]? = _ := (hbr.block _ hgf').trans HGF.out
      have k0 := (cell_blk hgr (j * 3)).trans F0
      have k1 := (cell_blk hgr (j * 3 + 1)).trans F1
      have k2 := (cell_blk hgr (j * 3 + 2)).trans F2
      have hBr : wr.heap[w.heap.size]? = _ := (hbr.block _ hltf).trans HBf.out
      have kx := (cell_blk hBr j).trans (HA.out j hlt)
      have hz := sz_le j hlt
      have hv := HV.out j hlt
      have hp := HP.out j (by omega)
      clear hgr hBr F0 F1 F2
      unfold getV at k1
      unfold setV at k2
      go_wp2
      have hbw : Below wr.heap.size wr (wr.alloc (.cells #[.int .i64 (sz j : Nat), .func (.func 94) #[.agg #[.pointer (some ⟨w.heap.size, j, none⟩)]] #[], .func (.func 95) #[.agg #[.pointer (some ⟨w.heap.size, j, none⟩)]] #[]] 94)) := (Below.refl _ wr).alloc (Nat.le_refl _) _
      have hnew : (wr.alloc (.cells #[.int .i64 (sz j : Nat), .func (.func 94) #[.agg #[.pointer (some ⟨w.heap.size, j, none⟩)]] #[], .func (.func 95) #[.agg #[.pointer (some ⟨w.heap.size, j, none⟩)]] #[]] 94)).heap[wr.heap.size]? = _ := alloc_new _ _ _ rfl
      have hsz : (wr.alloc (.cells #[.int .i64 (sz j : Nat), .func (.func 94) #[.agg #[.pointer (some ⟨w.heap.size, j, none⟩)]] #[], .func (.func 95) #[.agg #[.pointer (some ⟨w.heap.size, j, none⟩)]] #[]] 94)).heap.size = wr.heap.size + 1 := by simp
      generalize (wr.alloc (.cells #[.int .i64 (sz j : Nat), .func (.func 94) #[.agg #[.pointer (some ⟨w.heap.size, j, none⟩)]] #[], .func (.func 95) #[.agg #[.pointer (some ⟨w.heap.size, j, none⟩)]] #[]] 94)) = ws at *
      have n0 : ws.cell? ⟨wr.heap.size, 0, none⟩ = some (.int .i64 (sz j : Nat)) := cell_blk hnew 0
      have n1 : ws.cell? ⟨wr.heap.size, 1, none⟩ = some (.func (.func 94) #[.agg #[.pointer (some ⟨w.heap.size, j, none⟩)]] #[]) := cell_blk hnew 1
      have nx : ws.cell? ⟨w.heap.size, j, none⟩ = some (.int .i64 (val x j)) := (hbw.cell (p := ⟨w.heap.size, j, none⟩) (by show w.heap.size < _; omega)).trans kx
      have l0 : wr.heap.size < ws.heap.size := by omega
      have l1 : w.heap.size < ws.heap.size := by omega
      have hB : Below ws.heap.size ws ws.drew := ⟨rfl, rfl, rfl, Nat.le_refl _, fun _ _ => rfl⟩
      have hput := put_part (sz j) (val x j) (by omega) (by omega) (by omega) (by omega) (by omega)
      have hzm : sz j ≤ maxLen := by unfold maxLen; omega
      have hmk := make_z (sz j) (by omega)
      clear k0 k1 k2 kx hnew hsz
      go_region_held3 (fun w' => w'.cell? ⟨wr.heap.size, 0, none⟩ = some (.int .i64 (sz j : Nat)) ∧ w'.cell? ⟨wr.heap.size, 1, none⟩ = some (.func (.func 94) #[.agg #[.pointer (some ⟨w.heap.size, j, none⟩)]] #[]))
        (first
          | exact ⟨(hB.cell (p := ⟨wr.heap.size, 0, none⟩) l0).trans n0, (hB.cell (p := ⟨wr.heap.size, 1, none⟩) l0).trans n1⟩
          | exact ⟨((hB.alloc hB.size _).cell (p := ⟨wr.heap.size, 0, none⟩) l0).trans n0, ((hB.alloc hB.size _).cell (p := ⟨wr.heap.size, 1, none⟩) l0).trans n1⟩)
        (first
          | (go_at_call 94; refine (get_fun (val x j) _ _ (Eq.trans (by first | exact (hB.cell (p := ⟨w.heap.size, j, none⟩) l1) | exact ((hB.alloc hB.size _).cell (p := ⟨w.heap.size, j, none⟩) l1)) nx)).mono ?_; rintro e wg ⟨rfl, hbg⟩; have hB := below_then (by first | exact hB | exact hB.alloc hB.size _) hbg (by first | exact hB.size | exact (hB.alloc hB.size _).size))
          | (go_at_call 53; refine (put_good _ _ _ (List.replicate (sz j) 0) _ _ _ _ _ (by first | exact Rd_z _ _ _ hzm | exact (Rd_z _ _ _ hzm).below (below_of_drew hbg)) hput (by omega)).mono ?_; rintro e wp ⟨vp, rfl, hownp, hbp⟩; have hB := below_then (by first | exact hB | exact hB.alloc hB.size _) hbp (by first | exact hB.size | exact (hB.alloc hB.size _).size); obtain ⟨ap, pp, hvp, hrp, -, -, -⟩ := hownp.form; subst hvp))
      all_goals
        rw [P.be_length] at hrp ⊢
        have hbt := below_then hbw hB hbw.size
        have hst : wf.heap.size ≤ wp.heap.size := by have := hbt.size; omega
        have HRP := Lib.hid hrp
        clear hownp hrp hB n0 n1 nx hput hmk hbg hbp
        go_wp2_with (at_builtin; refine wpList_app _ rfl _ _ rfl wf.heap.size _ _ rfl (HO.out.below hbt) _ _ _ _ rfl HRP.out ?c1 hst ?_)
        case c1 => omega
        intro v1 w1 hown1 hg1 hat1
        have hb1 : Below wf.heap.size wf w1 := (HO.out.below hbt).grown (hbr.trans (hbt.mono hsr)) hst hg1
        obtain ⟨a1, c1, hv1, -, -, -, -⟩ := hown1.form
        subst hv1
        have HO1 : Hid (OB w1 wf.heap.size (.slice a1 (part x j ++ P.be (sz j) (val x j).toNat).length c1) (part x (j + 1))) := Lib.hid hown1
        clear hown1 hg1 hat1
        go_wp2
        go_roundw
        case rel => exact ⟨j + 1, by omega, by first | go_num | (simp; done), ⟨_, _, _, rfl⟩, HO1.out, hb1⟩
        case measure => simp [intOf]; omega
    · obtain rfl : j = 8 := by omega
      have ho := HO.out
      rw [← HBL.out] at ho
      have hnv : nv = 34 := by rw [ho.len, hbl]
      subst hnv
      obtain ⟨av', cv', hva, hra, -, -, -⟩ := ho.form
      simp only [Value.slice.injEq] at hva
      obtain ⟨q1, q2, q3⟩ := hva
      subst q1
      subst q3
      rw [hbl] at hra
      have HR := Lib.hid hra
      clear ho hra HO q2
      go_wp2_with fail
      refine (seal_fun 1 0 0 _ _ _ BL _ HR.out).mono ?_
      rintro e wz ⟨vz, rfl, hownz, hbz⟩
      rw [HSE.out]
      obtain ⟨az, pz, hvz, -, -, -, -⟩ := hownz.form
      subst hvz
      have HOZ := Lib.hid (hownz.mono (show w.heap.size ≤ _ by omega))
      have hb2 : Below w.heap.size w wf := below_then hbA hbf hbA.size
      have hb3 : Below w.heap.size w wr := below_then hb2 hbr hb2.size
      have hbz' := below_then hb3 hbz hb3.size
      clear hownz
      go_wp2
      go_ret2
      exact ⟨_, rfl, HOZ.out, hbz'⟩
end Go.Proofs.Ytpdmhnppibfmkaa
