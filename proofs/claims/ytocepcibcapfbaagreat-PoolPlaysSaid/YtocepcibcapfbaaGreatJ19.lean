/- The device: lay. -/
import Derived.Test.YtocepcibcapfbaaGreatJ16
import Derived.Test.YtocepcibcapfbaaGreatJ17
import Derived.Test.YtocepcibcapfbaaGreatJ18
namespace Go.Proofs.YtocepcibcapfbaaGreat
set_option linter.unusedVariables false
set_option linter.unusedSimpArgs false
set_option linter.unusedSectionVars false
open Go.RowKit
variable [Inhabited AvT]

/-- A write of page n, of b, in cells. -/
def wrL (n : Int) (b : List UInt8) : List Value := .int .i64 n :: bvs b
def zpg : List UInt8 := List.replicate 256 0
def wrV : Value := .agg (wrL 0 zpg).toArray
theorem wrL_len (n : Int) (b : List UInt8) (h : b.length = 256) : (wrL n b).length = 257 := by simp [wrL, bvs_length, h]
theorem wrL_one (n : Int) (b : List UInt8) : ∀ v ∈ wrL n b, v.oneCell' = true := by
  intro v hv
  rcases List.mem_cons.1 hv with rfl | hv
  · rfl
  · exact bvs_one _ v hv
theorem u8_sz : (Tryz.prog.info? 5).map (·.size) = some 1 := by kernel_rfl
theorem wr_info : (Tryz.prog.info? 112).map (·.size) = some 257 := by kernel_rfl
theorem blk_info2 : (Tryz.prog.info? 93).map (·.size) = some 256 := by kernel_rfl
theorem wr_zc : Tryz.zeroCells112 = (wrL 0 zpg).toArray := by kernel_rfl
theorem writesT : SlT 83 112 257 264 := ⟨Tryz.underlying83, ⟨wrV, by kernel_rfl, by kernel_rfl⟩, by omega⟩
theorem wr_slice : ∃ z, (Tryz.prog.info? 112).map (fun i => (i.zero, i.size)) = some (some z, 257) := ⟨wrV, by kernel_rfl⟩
theorem logV_snoc (l : List (Nat × List UInt8)) (n : Nat) (b : List UInt8) : logV (l ++ [(n, b)]) = logV l ++ wrL n b := by simp [logV, wrL]
set_option maxRecDepth 100000 in
/-- A page of a row of pages was stored. -/
theorem RV.setP {w w' : World} {gn np n : Nat} {C : List Value} {img b : List UInt8} {t : TypeId} {fr : Nat × Nat} (hr : RV w (some ⟨gn, 0, none⟩) np 256 (bvs img)) (h1 : w.heap[gn]? = some (.cells C.toArray t fr)) (h2 : w'.heap[gn]? = some (.cells (splice C (n * 256) (bvs b)).toArray t fr)) (hb : b.length = 256) (hn : n < np) :
    RV w' (some ⟨gn, 0, none⟩) np 256 (bvs (P.setP img n b)) := by
  have hl : img.length = 256 * np := by have := hr.1; rw [bvs_length] at this; omega
  have hsl := P.setP_length img np n b hl hb hn
  refine ⟨by rw [bvs_length, hsl]; omega, hr.2.1, fun i hi => ⟨_, rfl, ?_⟩⟩
  rw [bvs_length, hsl] at hi
  rw [Addr.add_lit, Nat.zero_add, cell_blk h2]
  have hC : ∀ j, j < 256 * np → C[j]? = (bvs img)[j]? := fun j hj => by
    obtain ⟨p, e, hp⟩ := hr.2.2 j (by rw [bvs_length, hl]; exact hj)
    cases e
    rw [Addr.add_lit, Nat.zero_add, cell_blk h1] at hp
    rw [List.getElem?_eq_getElem (l := bvs img) (by rw [bvs_length, hl]; exact hj), ← hp]
    simp
  have hCl : 256 * np ≤ C.length := by
    rcases Nat.lt_or_ge C.length (256 * np) with h | h
    · have h3 := hC C.length h
      rw [List.getElem?_eq_none (Nat.le_refl _), List.getElem?_eq_getElem (l := bvs img) (by rw [bvs_length, hl]; exact h)] at h3
      cases h3
    · exact h
  have hs : (splice C (n * 256) (bvs b)).toArray[i]? = (bvs (P.setP img n b))[i]? := by
    have e1 : (bvs (P.setP img n b))[i]? = ((P.setP img n b)[i]?).map bv := by simp [bvs]
    rw [e1, P.setP_get? img np n b hl hb hn]
    simp only [List.getElem?_toArray]
    unfold splice
    by_cases h3 : i < n * 256
    · rw [if_neg (by omega), List.getElem?_append_left (by simp; omega), List.getElem?_take, if_pos h3, hC i hi]
      simp [bvs]
    · have ht : (C.take (n * 256)).length = n * 256 := by simp; omega
      rw [List.getElem?_append_right (by omega), ht]
      by_cases h4 : i < n * 256 + 256
      · rw [if_pos (by omega), List.getElem?_append_left (by rw [bvs_length]; omega), show 256 * n = n * 256 from Nat.mul_comm _ _]
        simp [bvs]
      · rw [if_neg (by omega), List.getElem?_append_right (by rw [bvs_length]; omega), List.getElem?_drop, bvs_length, hb, show n * 256 + 256 + (i - n * 256 - 256) = i by omega, hC i hi]
        simp [bvs]
  rw [hs]
  exact List.getElem?_eq_getElem _
set_option maxRecDepth 100000 in
set_option maxHeartbeats 1600000 in
theorem lay_any (B d np : Nat) (x : P.Dv) (n : Nat) (a : Option Addr) (c : Nat) (b : List UInt8) (w : World) (h : DvIs B w d np x) (hB : B ≤ w.heap.size) (hn : n < np) (hr : Rd w a 256 b) (hlog : x.log.length < x.ops) :
    Calls Tryz.prog 86 #[.pointer (some ⟨d, 0, none⟩), .int .i64 (n : Int), .slice a 256 c] w fun e w' => e = .returned (.tuple #[]) ∧ DvIs B w' d np { x with img := P.setP x.img n b, log := x.log ++ [(n, b)] } ∧ Ty B devT w w' := by
  have hzl : zpg.length = 256 := by unfold zpg; rw [List.length_replicate]
  have HR := Lib.hid hr
  have H := Lib.hid h
  have HLOG := Lib.hid hlog
  clear hr h hlog
  have HC := Lib.hid wr_zc
  have hw0 : (Tryz.zeroCells112).setIfInBounds 0 (.int .i64 (n : Int)) = (wrL n zpg).toArray := by rw [wr_zc]; simp [wrL]
  have HW0 := Lib.hid hw0
  clear hw0
  have HZL := Lib.hid hzl
  generalize hzz : zpg = z at *
  clear hzz hzl
  go_enter Tryz.func86, Tryz.ntmps86
  go_wp2_with (refine wpList_storeC rfl rfl w.heap.size 0 rfl (wrL n z) (by show Value.agg _ = _; rw [HW0.out]) 257 wr_info (wrL_len _ _ HZL.out) (wrL_one _ _) (wrL 0 z) 112 (by rw [← HC.out]; exact alloc_new _ _ _ rfl) (by rw [wrL_len _ _ HZL.out]; omega) ?_)
  intro w1 k1 c1
  have hb1 : Below w.heap.size w w1 := below_chg ((Below.refl _ w).alloc (Nat.le_refl _) _) c1 (by simp) (fun i e => by omega)
  rw [show splice (wrL 0 z) 0 (wrL n z) = wrL n z by simp [splice, wrL_len _ _ HZL.out]] at k1
  have K1 := Lib.hid k1
  have HB1 := Lib.hid hb1
  have HLN := Lib.hid (show (bvs b).length = Nat.min 256 256 by rw [bvs_length, HR.out.1]; rfl)
  have HPOS := Lib.hid (show 0 < (bvs b).length → (some (⟨w.heap.size, 1, none⟩ : Addr) = some ⟨w.heap.size, 1, none⟩) ∧ ∃ ad, a = some ad ∧ ∀ j v, (bvs b)[j]? = some v → w1.cell? (ad.add j) = some v from fun h0 => by
    have h1 := (HR.out.below hb1)
    rw [bvs_length] at h0
    obtain ⟨p, rfl, hp⟩ := h1.ptr h0
    refine ⟨rfl, p, rfl, fun j v hv => ?_⟩
    have hj := (List.getElem?_eq_some_iff.1 hv).1
    rw [bvs_length] at hj
    rw [hp j hj, ← hv, bvs_at b j hj])
  clear k1 hb1 c1
  go_wp2_with (first | (refine wpList_copy_splice rfl (.tmp 10) (.tmp 11) 38 38 rfl 5 Tryz.underlying38 u8_sz _ _ _ _ _ _ rfl rfl w.heap.size 1 (wrL n z) 112 K1.out (bvs b) HLN.out HPOS.out ?_ (bvs_one _) w.heap.size w HB1.out (Nat.le_refl _) ?_))
  case refine_1 => rw [bvs_length, HR.out.1, wrL_len _ _ HZL.out]; omega
  intro w2 k2 hb2
  have k2' := k2.out
  rw [show splice (wrL n z) 1 (bvs b) = wrL n b by simp [splice, wrL, bvs_length, HR.out.1, HZL.out]] at k2'
  have K2 := Lib.hid k2'
  have HB2 := Lib.hid hb2
  have H2 := Lib.hid (H.out.below hb2)
  have hD2 := H.out
  obtain ⟨vl, gn, cn, vw, ao, no, co, fz, nw, lw, Cn, d1, d2, d3, d4, d5, d6, d7, d8, d9, d10, d11, d12, d13, d14⟩ := hD2
  have hvw := d9.1
  replace d1 := (hb2.block _ (lt_of_block d1)).trans d1
  replace d3 := (hb2.block _ (lt_of_block d3)).trans d3
  replace d4 := d4.below hb2
  replace d9 := d9.ty (Ty.of_below (B := 0) (T := fun _ => False) hb2) ⟨id, id, id, id⟩
  have HOV := Lib.hid d9
  have HBD := Lib.hid d2
  have HPT := Lib.hid (And.intro d5 (And.intro d6 (And.intro d7 (And.intro d8 (And.intro d9 (And.intro d10 (And.intro d11 (And.intro d12 (And.intro d13 d14)))))))))
  have HOVW := Lib.hid hvw
  have gd := cell_blk d1
  have fd' := free_blk d1
  have HD1 := Lib.hid d1
  have HO12 := Lib.hid d12
  have HD3 := Lib.hid d3
  have HD4 := Lib.hid d4
  unfold dvF at gd
  have i0 : (0 : Int) ≤ (n : Int) := by omega
  have i1 : (n : Int) < (np : Int) := by omega
  have hfit : n * 256 + 256 ≤ Cn.toList.length := by
    have hl := H2.out.page
    obtain ⟨p, e, hp⟩ := d4.2.2 (np * 256 - 1) (by rw [bvs_length, hl]; omega)
    cases e
    rw [Addr.add_lit, Nat.zero_add, cell_blk d3] at hp
    have := (Array.getElem?_eq_some_iff.1 hp).1
    simp
    omega
  have HFIT := Lib.hid hfit
  have HGL := Lib.hid (show ∀ k v, (bvs b)[k]? = some v → w2.cell? ⟨w.heap.size, 1 + k, none⟩ = some v from fun k v hv => by
    rw [cell_blk K2.out, Nat.add_comm 1 k]
    simpa [wrL] using hv)
  have HBL := Lib.hid (show (bvs b).length = 256 by rw [bvs_length, HR.out.1])
  clear k2 k2' hb2 d1 d2 d3 d4 d5 d6 d7 d8 d9 d10 d11 d12 d13 d14 hfit hvw
  go_wp2_with fail
  refine wp_region_still_tail 8 (by kernel_rfl) (by kernel_rfl) ?_
  simp only [List.take_succ_cons, List.take_zero, List.drop_succ_cons, List.drop_zero]
  iterate 6 still_step
  refine wpStill_val rfl _ (x_load rfl w.heap.size 1 rfl 256 blk_info2 (fun w => Tryz.isAgg93 w) (bvs b) HBL.out HGL.out) ?_
  still_step
  refine wpStill_nil ?_
  have HD3' := Lib.hid (show w2.heap[gn]? = some (.cells Cn.toList.toArray 93 (0, 0)) by rw [Array.toArray_toList]; exact HD3.out)
  refine wpList_storeC rfl rfl gn (n * 256) rfl (bvs b) rfl 256 blk_info2 HBL.out (bvs_one _) Cn.toList 93 HD3'.out HFIT.out ?_
  intro w3 k3 c3
  have hgd : gn ≠ d := fun e => by have := HD1.out; rw [← e, HD3.out] at this; simp at this
  have hgw : gn ≠ w.heap.size := fun e => by have := K2.out; rw [← e, HD3.out] at this; simp at this
  have hdw : d ≠ w.heap.size := fun e => by have := K2.out; rw [← e, HD1.out] at this; simp at this
  have hty3 : Ty gn (fun u => u = some 93) w2 w3 := Ty.of_chg ⟨c3.os, c3.tape, c3.output, c3.size, c3.block⟩ HD3'.out k3
  have h3d := hty3.cells HD1.out (.inr (by decide))
  have h3w := hty3.cells K2.out (.inr (by decide))
  have h3v := HOV.out.1.ty hty3 (fun _ _ => .inr (by decide))
  have H3N := Lib.hid (HD4.out.setP HD3'.out k3 HR.out.1 hn)
  have HC3 := Lib.hid (show Chg (fun k => k = gn) w2 w3 from ⟨c3.os, c3.tape, c3.output, c3.size, c3.block⟩)
  have H3D := Lib.hid h3d
  have H3W := Lib.hid h3w
  have H3V := Lib.hid h3v
  have HGN := Lib.hid (show w3.heap[gn]? = _ from k3)
  have HTY3 := Lib.hid hty3
  have HLW := Lib.hid (wrL_len n b HR.out.1)
  have HRW := Lib.hid (show ∀ k v, (wrL n b)[k]? = some v → w3.drew.cell? ⟨w.heap.size, 0 + k, none⟩ = some v from fun k v hv => by
    have h := cell_blk h3w
    rw [Nat.zero_add]
    show w3.cell? _ = _
    rw [h]
    simpa using hv)
  have HNW := Lib.hid (show nw ≤ 1000000 by have := HOV.out.2.1.2; have := HLOG.out; have := HO12.out; omega)
  have hl3 := lt_of_block h3d
  have gd3 := cell_blk h3d
  have fd3 := free_blk h3d
  have ga3 : ∀ o : Obj, ∀ i, (w3.alloc o).cell? ⟨d, i, none⟩ = (dvF vl gn np cn vw ao no co fz x.dead x.ops)[i]? := fun o => cell_blk (alloc_old h3d o)
  unfold dvF at gd3 ga3
  clear gd fd' h3d h3v h3w c3 k3 hty3 hgw
  go_wp2_with fail
  have hb1' : (nw + 1) * 264 ≤ 140737488355328 := by have := HNW.out; omega
  have hb2' : nw + 1 ≤ 140737488355328 := by have := HNW.out; omega
  have HRL := Lib.hid (fun o : Nat => (RV_lit (fr := (0, 0)) w3.drew 112 1 257 (wrL n b) (by rw [HLW.out]) (by unfold maxLen; omega)))
  have HBS := Lib.hid (show ∀ o : Obj, B ≤ (w3.drew.alloc o).heap.size from fun o => by have := HTY3.out.size; have := HB2.out.size; have : w3.drew.heap.size = w3.heap.size := rfl; simp; omega)
  have hnb : ∀ k, vw.ownBlock = some k → k ≠ d ∧ k ≠ w.heap.size := fun k hk => by
    have h := H3V.out.tag k hk
    have h4 := World.ownsRow.lt HOVW.out k hk
    exact ⟨fun e => by rw [e, tagA_cells H3D.out] at h; simp at h, by omega⟩
  have X4 := Lib.hid (show ∀ (o : Oper) (ρ : Operand → Value) (x : Operand) (w' : World), o.op = .load 83 x → ρ x = .pointer (some ⟨d, 2, none⟩) → Below w3.heap.size w3 w' → (execOp ρ o).run Tryz.prog w' = .ok (.value vw) w' from fun o ρ x w' ho hx hb =>
    x_load1 ho ⟨d, 2, none⟩ hx (by intro w; kernel_rfl) vw (by rw [cell_blk ((hb.block d (lt_of_block H3D.out)).trans H3D.out)]; rfl))
  have HN := Lib.hid hnb
  clear hnb
  obtain ⟨v5, w5, e5, ho5, hg5, hat5, ht5⟩ := run_appT writesT (w3.drew.alloc (.cells (wrL n b).toArray 112)) 83 B vw nw lw (H3V.out.alloc _) (some ⟨w3.heap.size, 0, none⟩) 1 1 (wrL n b) (HRL.out 0) (wrL_one _ _) hb1' hb2' (HBS.out _)
  have HE5 := Lib.hid (show ∀ ty, (Builtin.append_ #[83, 83] ty #[vw, .slice (some ⟨w3.heap.size, 0, none⟩) 1 1]).run Tryz.prog (w3.drew.alloc (.cells (wrL n b).toArray 112)) = .ok v5 w5 from fun ty => e5)
  have HV5 := Lib.hid (show v5.cells = #[v5] ∧ v5.oneCell' = true from by obtain ⟨a5, c5, rfl, -⟩ := ho5.form; exact ⟨rfl, rfl⟩)
  have HFIN := Lib.hid (show DvIs B (w5.setCell ⟨d, 2, none⟩ v5) d np { x with img := P.setP x.img n b, log := x.log ++ [(n, b)] } ∧ Ty B devT w (w5.setCell ⟨d, 2, none⟩ v5) ∧ w5.cell? ⟨d, 2, none⟩ = some vw ∧ w5.frozen? ⟨d, 2, none⟩ = false from by
    obtain ⟨d5, d6, d7, d8, ⟨d9, ⟨e9, n9⟩, gl, cl, Cl, l1, l2, l3, l4, l5⟩, d10, d11, d12, d13, d14⟩ := HPT.out
    have t34 : Ty B devT w3 w5 := (((Ty.refl B devT w3).drew.alloc _).trans (ht5.mono (Nat.le_refl _) (fun t h => .inr (.inr h))))
    have hT3 : ∀ {c : Array Value} {t : TypeId} {k : Nat}, w3.heap[k]? = some (.cells c t (0, 0)) → t ≠ 112 → w5.heap[k]? = some (.cells c t (0, 0)) := fun hk ht =>
      ht5.cells (alloc_old hk _) (.inr (fun e => ht (Option.some.inj e)))
    have q5 := hT3 H3D.out (by decide)
    have qn := hT3 HGN.out (by decide)
    have s5 : Ty B (fun t => t = some 85) w5 (w5.setCell ⟨d, 2, none⟩ v5) := (Ty.refl _ _ _).setCell _ _ (.inr ⟨HBD.out.1, _, tagA_cells q5, rfl⟩)
    have hw3 : Ty B devT w w3 := (Ty.of_below HB2.out).trans (HTY3.out.mono HBD.out.2 (fun t h => .inr (.inl h)))
    have hall : Ty B devT w (w5.setCell ⟨d, 2, none⟩ v5) := (hw3.trans t34).trans (s5.mono (Nat.le_refl _) (fun t h => .inl h))
    refine ⟨?_, hall, by rw [cell_blk q5]; rfl, free_blk q5 2⟩
    have hl3 := (HC3.out.block gl (lt_of_block l3) l2.2).trans l3
    have r3 := l4.chg HC3.out (fun p e => by cases e; exact l2.2)
    have kq : ∀ {c : Array Value} {k : Nat}, w3.heap[k]? = some (.cells c 93 (0, 0)) → ∀ {n : Nat} {l : List Value}, RV w3 (some ⟨k, 0, none⟩) n 256 l → w5.heap[k]? = some (.cells c 93 (0, 0)) ∧ RV (w5.setCell ⟨d, 2, none⟩ v5) (some ⟨k, 0, none⟩) n 256 l := fun hk n l hr => by
      have h5 := hT3 hk (by decide)
      exact ⟨h5, ((((hr.below (below_of_drew ((Below.refl _ w3.drew).alloc (Nat.le_refl _) _)))).ty ht5 (fun _ p e => by cases e; exact .inr ⟨_, tagA_cells (alloc_old hk _), by decide⟩))).ty s5 (fun _ p e => by cases e; exact .inr ⟨_, tagA_cells h5, by decide⟩)⟩
    obtain ⟨a1, a2⟩ := kq HGN.out H3N.out
    obtain ⟨b1, b2⟩ := kq hl3 r3
    refine ⟨vl, gn, cn, v5, ao, no, co, fz, nw + 1, lw ++ wrL n b, _, ?_, HBD.out, s5.cells a1 (.inr (by decide)), a2, d5, d6.ty hall (fun h0 p e => .inr ⟨_, (d8.2 h0 p e).1, by unfold devT; decide⟩), d7, d8.ty hall,
      ⟨ho5.ty s5 (fun _ _ => .inr (by decide)), ⟨by rw [e9]; exact (logV_snoc _ _ _).symm, by rw [n9, List.length_append]; rfl⟩, gl, cl, Cl, l1, l2, s5.cells b1 (.inr (by decide)), b2, l5⟩, by have := HLOG.out; show nw + 1 ≤ x.ops; omega, d11, d12, d13, d14⟩
    rw [blk_setCell q5]
    rfl)
  refine wp_region_any (by kernel_rfl) ?_
  change wpAny _ _ _ _ _ _ _ w3.drew
  refine wpAny_take (i := 0) (oi := ⟨some 21, _, _, _, _, _⟩) rfl (by kernel_rfl) (by kernel_rfl) (by kernel_rfl) (fun _ _ _ h => h) (Or.inl ⟨by rfl, fun _ => rfl⟩) ?_
  refine wpAny_take (i := 1) (oi := ⟨some 22, _, _, _, _, _⟩) rfl (by kernel_rfl) (by kernel_rfl) (by kernel_rfl) (fun _ _ _ h => h) (Or.inl ⟨by rfl, fun _ => rfl⟩) ?_
  refine wpAny_take (i := 2) (oi := ⟨some 23, _, _, _, _, _⟩) rfl (by kernel_rfl) (by kernel_rfl) (by kernel_rfl) (fun _ _ _ h => h) (Or.inl ⟨by rfl, fun _ => rfl⟩) ?_
  refine wpAny_take (i := 3) (oi := ⟨some 24, _, _, _, _, _⟩) (v := .pointer (some ⟨d, 2, none⟩)) rfl (by kernel_rfl) (by kernel_rfl) (by kernel_rfl) (fun _ _ _ h => h) (Or.inl ⟨by rfl, fun _ => by kernel_rfl⟩) ?_
  simp only [Act.put, List.setIfInBounds_toArray, List.set_cons_zero, List.set_cons_succ]
  refine any_do2 4 5 (o := ⟨some 25, _, _, _, _, _⟩) (o' := ⟨some 26, _, _, _, _, _⟩) rfl rfl (by kernel_rfl) rfl rfl vw (.agg (wrL n b).toArray) (X4.out _ _ _ _ rfl rfl (below_of_drew (Below.refl _ _))) (x_load rfl w.heap.size 0 rfl 257 wr_info (fun w => Tryz.isAgg112 w) (wrL n b) HLW.out HRW.out) ?_ ?_
  · refine any_do 5 (o := ⟨some 26, _, _, _, _, _⟩) rfl (by kernel_rfl) rfl (.agg (wrL n b).toArray) (x_load rfl w.heap.size 0 rfl 257 wr_info (fun w => Tryz.isAgg112 w) (wrL n b) HLW.out HRW.out) ?_
    refine any_do 6 (o := ⟨some 27, _, _, _, _, _⟩) rfl (by kernel_rfl) rfl _ (x_slice1 rfl (wrL n b) rfl Tryz.underlying83 257 wr_slice HLW.out (by omega) (by omega)) ?_
    simp only [Act.put, List.setIfInBounds_toArray, List.set_cons_zero, List.set_cons_succ]
    refine any_do 7 (o := ⟨some 28, _, _, _, _, _⟩) rfl (by kernel_rfl) rfl v5 (x_append rfl v5 vw (.slice (some ⟨w3.heap.size, 0, none⟩) 1 1) rfl rfl (HE5.out _)) ?_
    refine any_do 8 (w' := w5) (o := ⟨some 29, _, _, _, _, _⟩) rfl (by kernel_rfl) rfl (.pointer (some ⟨d, 0, none⟩)) rfl ?_
    refine any_do 9 (w' := w5) (o := ⟨some 30, _, _, _, _, _⟩) rfl (by kernel_rfl) rfl (.pointer (some ⟨d, 2, none⟩)) (by kernel_rfl) ?_
    simp only [Act.put, List.setIfInBounds_toArray, List.set_cons_zero, List.set_cons_succ]
    refine any_skip 10 (o := ⟨none, _, _, _, _, _⟩) rfl (by kernel_rfl) rfl (x_store1 rfl ⟨d, 2, none⟩ rfl v5 vw rfl (by kernel_rfl) HV5.out.1 HV5.out.2 HFIN.out.2.2.1 HFIN.out.2.2.2) ?_
    refine wpAny_done (by kernel_rfl) ?_ _
    go_wp2
    go_end0
    exact ⟨rfl, HFIN.out.1, HFIN.out.2.1⟩
  · refine any_do2 4 6 (o := ⟨some 25, _, _, _, _, _⟩) (o' := ⟨some 27, _, _, _, _, _⟩) rfl rfl (by kernel_rfl) rfl rfl vw _ (X4.out _ _ _ _ rfl rfl (below_of_drew (Below.refl _ _))) (x_slice1 rfl (wrL n b) rfl Tryz.underlying83 257 wr_slice HLW.out (by omega) (by omega)) ?_ ?_
    · refine any_do 6 (o := ⟨some 27, _, _, _, _, _⟩) rfl (by kernel_rfl) rfl _ (x_slice1 rfl (wrL n b) rfl Tryz.underlying83 257 wr_slice HLW.out (by omega) (by omega)) ?_
      simp only [Act.put, List.setIfInBounds_toArray, List.set_cons_zero, List.set_cons_succ]
      refine any_do 7 (o := ⟨some 28, _, _, _, _, _⟩) rfl (by kernel_rfl) rfl v5 (x_append rfl v5 vw (.slice (some ⟨w3.heap.size, 0, none⟩) 1 1) rfl rfl (HE5.out _)) ?_
      refine any_do 8 (w' := w5) (o := ⟨some 29, _, _, _, _, _⟩) rfl (by kernel_rfl) rfl (.pointer (some ⟨d, 0, none⟩)) rfl ?_
      refine any_do 9 (w' := w5) (o := ⟨some 30, _, _, _, _, _⟩) rfl (by kernel_rfl) rfl (.pointer (some ⟨d, 2, none⟩)) (by kernel_rfl) ?_
      simp only [Act.put, List.setIfInBounds_toArray, List.set_cons_zero, List.set_cons_succ]
      refine any_skip 10 (o := ⟨none, _, _, _, _, _⟩) rfl (by kernel_rfl) rfl (x_store1 rfl ⟨d, 2, none⟩ rfl v5 vw rfl (by kernel_rfl) HV5.out.1 HV5.out.2 HFIN.out.2.2.1 HFIN.out.2.2.2) ?_
      refine wpAny_done (by kernel_rfl) ?_ _
      go_wp2
      go_end0
      exact ⟨rfl, HFIN.out.1, HFIN.out.2.1⟩
    · refine any_do 4 (o := ⟨some 25, _, _, _, _, _⟩) rfl (by kernel_rfl) rfl vw (X4.out _ _ _ _ rfl rfl (below_of_drew ((Below.refl _ w3.drew).alloc (Nat.le_refl _) _))) ?_
      simp only [Act.put, List.setIfInBounds_toArray, List.set_cons_zero, List.set_cons_succ]
      refine any_do 7 (o := ⟨some 28, _, _, _, _, _⟩) rfl (by kernel_rfl) rfl v5 (x_append rfl v5 vw (.slice (some ⟨w3.heap.size, 0, none⟩) 1 1) rfl rfl (HE5.out _)) ?_
      refine any_do 8 (w' := w5) (o := ⟨some 29, _, _, _, _, _⟩) rfl (by kernel_rfl) rfl (.pointer (some ⟨d, 0, none⟩)) rfl ?_
      refine any_do 9 (w' := w5) (o := ⟨some 30, _, _, _, _, _⟩) rfl (by kernel_rfl) rfl (.pointer (some ⟨d, 2, none⟩)) (by kernel_rfl) ?_
      simp only [Act.put, List.setIfInBounds_toArray, List.set_cons_zero, List.set_cons_succ]
      refine any_skip 10 (o := ⟨none, _, _, _, _, _⟩) rfl (by kernel_rfl) rfl (x_store1 rfl ⟨d, 2, none⟩ rfl v5 vw rfl (by kernel_rfl) HV5.out.1 HV5.out.2 HFIN.out.2.2.1 HFIN.out.2.2.2) ?_
      refine wpAny_done (by kernel_rfl) ?_ _
      go_wp2
      go_end0
      exact ⟨rfl, HFIN.out.1, HFIN.out.2.1⟩
end Go.Proofs.YtocepcibcapfbaaGreat
