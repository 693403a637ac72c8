/- The reference's pool: one, take. -/
import Derived.Test.YtocepcibcapfbaaGreatJ45
import Derived.Test.YtocepcibcapfbaaGreatJ23
namespace Go.Proofs.YtocepcibcapfbaaGreat
set_option linter.unusedVariables false
set_option linter.unusedSimpArgs false
set_option linter.unusedSectionVars false
open Go.RowKit
variable [Inhabited AvT]
variable {B : Nat} {w : World} {q m np N : Nat} {x : P.Po} {L : List (P.Fr × Value)} {vl : Value}

theorem erase_map {α β : Type} (f : α → β) (l : List α) (k : Nat) : (l.map f).eraseIdx k = (l.eraseIdx k).map f := by
  simp [List.eraseIdx_eq_take_drop_succ, List.map_take, List.map_drop]
/-- What out turns. -/
abbrev pkT (t : Option TypeId) : Prop := t = some 72
theorem pk_rp {w' : World} (h : Ty B pkT w w') : Ty B rpT w w' := h.mono (Nat.le_refl _) (fun _ h => .inr (.inl h))
theorem rf_rp {w' : World} (h : Ty B rfT w w') : Ty B rpT w w' := h.mono (Nat.le_refl _) (fun _ h => .inl h)
theorem RfD.pk {w' : World} {d : P.Dv} (h : RfD B w m np d) (hw : Ty B pkT w w') : RfD B w' m np d := h.ty hw ⟨by decide, by decide, by decide, by decide⟩
theorem wrE_cases (x : P.Dv) : x.wrE = 0 ∨ x.wrE = 7 := by unfold P.Dv.wrE; split <;> simp
/-- Write of a page that there is. -/
theorem rwr_in {d : P.Dv} (h : RfD B w m np d) (k : Nat) (hk : k < np) (hnp : np ≤ 4096) (a : Option Addr) (n c : Nat) (b : List UInt8) (hr : RB w a n b) (hb : b.length = 256) (hop : d.ops < 1000000) : Calls Tryz.prog 59 #[.pointer (some ⟨m, 0, none⟩), .int .i64 (k : Int), .slice a n c] w fun e w' =>
    e = .returned (.int .i64 d.wrE) ∧ RfD B w' m np (d.wrD k b) ∧ Ty B rfT w w' := by
  refine (rwrite_any h (k : Int) (by unfold inI; omega) a n c b hr hop).mono ?_
  rintro e w' (⟨h1, -, -⟩ | ⟨-, h1, h2, rfl⟩)
  · exact absurd ⟨⟨by omega, by omega⟩, hb⟩ h1
  · exact ⟨rfl, by rw [Int.toNat_natCast] at h1; exact h1, h2⟩
/-- How one ends. -/
def OneR (B q m np N : Nat) (x : P.Po) (w : World) (e : Ending) (w' : World) : Prop :=
  (x.oneE = 6 ∧ e = .returned (.tuple #[.bool false, .int .i64 0]) ∧ Below w.heap.size w w') ∨ (x.oneE ≠ 6 ∧ e = .returned (.tuple #[.bool true, .int .i64 x.oneE]) ∧ RfV B q m np N x.oneP w w')
set_option maxRecDepth 100000 in
set_option maxHeartbeats 3200000 in
theorem rone_any (h : RfP B w q m np N x) (hop : x.d.ops < 1000000) : Calls Tryz.prog 62 #[.pointer (some ⟨q, 0, none⟩)] w (OneR B q m np N x w) := by
  obtain ⟨hD, ⟨L, vl, hL, hx⟩, hok, hN⟩ := h
  have hone := P.one_ok hok
  have hnp : np ≤ 4096 := by
    obtain ⟨vs, gn, cn, vw, ao, no, co, ns, ls, Cn, hS⟩ := hD
    exact hS.big.2.1.2
  obtain ⟨K, hK⟩ : ∃ K, K = L.length := ⟨_, rfl⟩
  have hxl : x.l.length = K := by rw [← hx, List.length_map, hK]
  have hK5 : K ≤ 5000 := by have := hok.2.2.1; omega
  obtain ⟨av, cp, hvl, hrv, hcp, -, -⟩ := hL.row.form
  subst hvl
  have g2 : w.cell? ⟨q, 2, none⟩ = some (.slice av L.length cp) := cell_blk hL.pool 2
  have g0 : w.cell? ⟨q, 0, none⟩ = some (.pointer (some ⟨m, 0, none⟩)) := cell_blk hL.pool 0
  rw [← hK] at g2
  have HG := Lib.hid (And.intro hL.lt.1 (And.intro g0 g2))
  have HD := Lib.hid hD
  have HL := Lib.hid hL
  have HX := Lib.hid hx
  have HOK := Lib.hid hok
  have HONE := Lib.hid hone
  have HN := Lib.hid hN
  have HK := Lib.hid hK
  have HXL := Lib.hid hxl
  have HNP := Lib.hid hnp
  have HOP := Lib.hid hop
  have HRV := Lib.hid (show RFr w av L from hrv)
  have k5 : (K : Int) ≤ 5000 := by omega
  clear hD hL hx hok hone hN hK hxl hnp hop hrv hcp
  go_enter Tryz.func62, Tryz.ntmps62
  go_wp2
  clear g0 g2
  go_loopw [4] (fun s4 wr => ∃ k : Nat, k ≤ K ∧ s4 = .int .i64 k ∧ (∀ j (hj : j < L.length), j < k → 0 < L[j].1.pins) ∧ Below w.heap.size w wr) (fun s4 _ => K - (intOf s4).toNat)
  case atStart => exact ⟨0, Nat.zero_le _, rfl, fun j hj h => by omega, Below.refl _ _⟩
  case round =>
    obtain ⟨k, hk, rfl, hp, hb⟩ := hrel
    have g0 := (hb.cell (p := ⟨q, 0, none⟩) HG.out.1).trans HG.out.2.1
    have g2 := (hb.cell (p := ⟨q, 2, none⟩) HG.out.1).trans HG.out.2.2
    by_cases hlt : k < K
    · have i0 : (0 : Int) ≤ (k : Int) := by omega
      have i1 : (k : Int) < (K : Int) := by omega
      have hkl : k < L.length := by rw [← HK.out]; exact hlt
      obtain ⟨p, rfl, hc0, hc1, hc2, hc3⟩ := (show RFr wr av L from RV.below HRV.out hb).at k hkl
      obtain ⟨a, n, c, hae, hrb⟩ := HL.out.pgs L[k] (List.getElem_mem hkl)
      have hfk : x.l[k]? = some L[k].1 := by rw [← HX.out, List.getElem?_map, List.getElem?_eq_getElem hkl]; rfl
      have hmem : L[k].1 ∈ x.l := List.mem_of_getElem? hfk
      have hf := HOK.out.2.1 L[k].1 hmem
      rw [hae] at hc3
      have HB := Lib.hid hb
      have HP := Lib.hid hp
      obtain ⟨f, hfe⟩ : ∃ f, f = L[k].1 := ⟨_, rfl⟩
      rw [← hfe] at hc0 hc1 hc2 hfk hmem hf hrb
      have HFE := Lib.hid hfe
      have HFK := Lib.hid hfk
      have HRB := Lib.hid hrb
      have HFF := Lib.hid hf
      obtain ⟨z, hz⟩ : ∃ z, z = f.pins := ⟨_, rfl⟩
      obtain ⟨pg, hpg⟩ : ∃ pg, pg = f.pg := ⟨_, rfl⟩
      obtain ⟨dy, hdy⟩ : ∃ dy, dy = f.dirty := ⟨_, rfl⟩
      rw [← hz] at hc1
      rw [← hpg] at hc0
      rw [← hdy] at hc2
      have HZ := Lib.hid (And.intro hz (And.intro hpg hdy))
      clear hb hp hae hfk hmem hf hrb hfe hz hpg hdy
      by_cases hz0 : 0 < z
      · have hz2 : (0 : Int) < (z : Int) := by omega
        have HN2 := Lib.hid (show ∀ j (hj : j < L.length), j < k + 1 → 0 < L[j].1.pins from fun j hj h => by
          by_cases e : j = k
          · subst e
            have h1 := HZ.out.1
            rw [HFE.out] at h1
            omega
          · exact HP.out j hj (by omega))
        go_wp2
        exact ⟨⟨k + 1, by omega, by go_num, HN2.out, HB.out⟩, by simp [intOf]; omega⟩
      obtain rfl : z = 0 := by omega
      have hvic : P.victim x.l = some f := by
        have h1 := HFK.out
        obtain ⟨h2, h3⟩ := List.getElem?_eq_some_iff.1 h1
        rw [← h3]
        refine P.victim_at h2 (by rw [h3]; exact HZ.out.1.symm) (fun j hj => ?_)
        have h4 := HP.out j (by omega) hj
        have h5 : x.l[j]'(by omega) = (L[j]'(by omega)).1 := by
          have h6 : x.l[j]? = some (L[j]'(by omega)).1 := by rw [← HX.out, List.getElem?_map, List.getElem?_eq_getElem (by omega)]; rfl
          exact (List.getElem?_eq_some_iff.1 h6).2
        rw [h5]
        exact h4
      have hoff : P.off x.l f.pg = (L.eraseIdx k).map Prod.fst := by
        obtain ⟨h2, h3⟩ := List.getElem?_eq_some_iff.1 HFK.out
        rw [← h3, P.off_erase x.l k h2 HOK.out.1, ← HX.out, erase_map]
      have HV := Lib.hid hvic
      have HOF := Lib.hid hoff
      have HKL := Lib.hid hkl
      clear hz0 hvic hoff hlt
      have hOUT : ∀ W, RfL B W q m N L (.slice (some p) K cp) → Calls Tryz.prog 56 #[.pointer (some ⟨q, 0, none⟩), .int .i64 (k : Int)] W fun e w' => e = .returned (.tuple #[]) ∧ (∃ vl', RfL B w' q m N (L.eraseIdx k) vl') ∧ Ty B pkT W w' := fun W hW =>
        (rout_any hW k HKL.out (by rw [← HK.out]; exact hK5)).mono (fun e w' h => ⟨h.1, h.2.1, h.2.2.1⟩)
      have HOUT := Lib.hid hOUT
      clear hOUT
      rcases dy with _ | _
      · have HLr := Lib.hid (show RfL B wr q m N L (.slice (some p) K cp) by have h1 := HL.out.below HB.out; rw [← HK.out] at h1; exact h1)
        have HO := Lib.hid (HOUT.out wr HLr.out)
        go_wp2_with fail
        refine HO.out.mono ?_
        rintro e w1 ⟨rfl, hl1, ht1⟩
        have HF := Lib.hid (show OneR B q m np N x w (.returned (.tuple #[.bool true, .int .i64 0])) w1 from by
          have hE : x.oneE = 0 ∧ x.oneP = ⟨x.d, P.off x.l f.pg⟩ := by
            unfold P.Po.oneE P.Po.oneP
            rw [HV.out]
            simp [← HZ.out.2.2]
          obtain ⟨vl', hl1⟩ := hl1
          refine .inr ⟨by omega, by rw [hE.1], ⟨?_, ⟨L.eraseIdx k, vl', hl1, ?_⟩, HONE.out, HN.out⟩, (Ty.of_below HB.out).trans (pk_rp ht1)⟩
          · rw [hE.2]
            exact (HD.out.below HB.out).pk ht1
          · rw [hE.2]
            exact HOF.out.symm)
        clear hl1 ht1 g0 g2 hc0 hc1 hc2 hc3
        go_wp2
        go_ret2
        exact HF.out
      · have HLr := Lib.hid (show RfL B wr q m N L (.slice (some p) K cp) by have h1 := HL.out.below HB.out; rw [← HK.out] at h1; exact h1)
        have HWR := Lib.hid (rwr_in (HD.out.below HB.out) pg (by rw [HZ.out.2.1]; exact HFF.out.1) HNP.out a n c f.b (HRB.out.below HB.out) HFF.out.2 HOP.out)
        have HWR2 := Lib.hid (show Calls Tryz.prog 59 #[.pointer (some ⟨m, 0, none⟩), .int .i64 (pg : Int), .slice a n c] wr.drew fun e w' => e = .returned (.int .i64 x.d.wrE) ∧ RfD B w' m np (x.d.wrD pg f.b) ∧ Ty B rfT wr.drew w' from rwr_in ((HD.out.below HB.out).below (Below.refl _ wr).drew) pg (by rw [HZ.out.2.1]; exact HFF.out.1) HNP.out a n c f.b ((HRB.out.below HB.out).below (Below.refl _ wr).drew) HFF.out.2 HOP.out)
        have HDR := Lib.hid (show Ty B rfT wr wr.drew from Ty.of_below (Below.refl _ wr).drew)
        have hE : x.oneE = x.d.wrE ∧ x.oneP = ⟨x.d.wrD pg f.b, if x.d.wrE = 0 then P.off x.l f.pg else x.l⟩ := by
          unfold P.Po.oneE P.Po.oneP
          rw [HV.out]
          simp [← HZ.out.2.2, HZ.out.2.1]
        have HE := Lib.hid hE
        obtain ⟨E, hEE⟩ : ∃ E, E = x.d.wrE := ⟨_, rfl⟩
        have hEc : E = 0 ∨ E = 7 := by rw [hEE]; exact wrE_cases _
        rw [← hEE] at HWR2
        have HEE := Lib.hid hEE
        clear hE hEE
        go_wp2
        go_still_tail 20, (by kernel_rfl)
        change wpList _ _ _ _ _ wr.drew
        go_wp2_with fail
        refine HWR2.out.mono ?_
        rintro e w1 ⟨rfl, hd1, ht1⟩
        have HD1 := Lib.hid hd1
        have HT1 := Lib.hid (HDR.out.trans ht1)
        have HL1 := Lib.hid (HLr.out.devd (HDR.out.trans ht1))
        clear hd1 ht1 g0 g2 hc0 hc1 hc2 hc3
        rcases hEc with rfl | rfl
        · have HO := Lib.hid (HOUT.out w1 HL1.out)
          go_wp2_with fail
          refine HO.out.mono ?_
          rintro e w2 ⟨rfl, ⟨vl', hl2⟩, ht2⟩
          have HF := Lib.hid (show OneR B q m np N x w (.returned (.tuple #[.bool true, .int .i64 0])) w2 from by
            have h1 := HE.out
            rw [← HEE.out] at h1
            refine .inr ⟨by omega, by rw [h1.1], ⟨?_, ⟨L.eraseIdx k, vl', hl2, ?_⟩, HONE.out, HN.out⟩, ((Ty.of_below HB.out).trans (rf_rp HT1.out)).trans (pk_rp ht2)⟩
            · rw [h1.2]
              exact HD1.out.pk ht2
            · rw [h1.2]
              exact HOF.out.symm)
          clear hl2 ht2
          go_wp2
          go_ret2
          exact HF.out
        · have HF := Lib.hid (show OneR B q m np N x w (.returned (.tuple #[.bool true, .int .i64 7])) w1 from by
            have h1 := HE.out
            rw [← HEE.out] at h1
            refine .inr ⟨by omega, by rw [h1.1], ⟨?_, ⟨L, _, HL1.out, ?_⟩, HONE.out, HN.out⟩, (Ty.of_below HB.out).trans (rf_rp HT1.out)⟩
            · rw [h1.2]
              exact HD1.out
            · rw [h1.2]
              exact HX.out)
          go_wp2
          go_ret2
          exact HF.out
    · have hkK : k = K := by omega
      have HF := Lib.hid (show OneR B q m np N x w (.returned (.tuple #[.bool false, .int .i64 0])) wr from .inl ⟨by
        unfold P.Po.oneE
        rw [P.victim_no (fun f hf => by
          rw [← HX.out] at hf
          obtain ⟨q', hq', rfl⟩ := List.mem_map.1 hf
          obtain ⟨j, hj, rfl⟩ := List.mem_iff_getElem.1 hq'
          exact hp j hj (by rw [hkK, HK.out]; exact hj))], rfl, hb⟩)
      have hk2 : ¬ (k : Int) < (K : Int) := by omega
      clear hp hb hlt hkK
      go_wp2
      go_ret2
      exact HF.out
end Go.Proofs.YtocepcibcapfbaaGreat
/- The reference's pool: take, last; a frame added, a frame's cell turned. -/
namespace Go.Proofs.YtocepcibcapfbaaGreat
set_option linter.unusedVariables false
set_option linter.unusedSimpArgs false
set_option linter.unusedSectionVars false
open Go.RowKit
variable [Inhabited AvT]
variable {B : Nat} {w : World} {q m np N : Nat} {x : P.Po} {L : List (P.Fr × Value)} {vl : Value}

/-- What the frames' calls turn. -/
abbrev plT (t : Option TypeId) : Prop := t = some 72 ∨ t = some 80
theorem pl_rp {w' : World} (h : Ty B plT w w') : Ty B rpT w w' := h.mono (Nat.le_refl _) (fun _ h => .inr h)
theorem RfD.pl {w' : World} {d : P.Dv} (h : RfD B w m np d) (hw : Ty B plT w w') : RfD B w' m np d := h.ty hw ⟨by decide, by decide, by decide, by decide⟩
theorem RfP.self {w' : World} (h : RfP B w q m np N x) (hb : Below w.heap.size w w') : RfV B q m np N x w w' := ⟨h.below hb, Ty.of_below hb⟩
theorem RfP.len (h : RfP B w q m np N x) : x.l.length ≤ 4096 := by have h1 := h.2.2.1.2.2.1; have h2 := h.2.2.2; omega
set_option maxRecDepth 100000 in
set_option maxHeartbeats 1600000 in
theorem rtake_any (h : RfP B w q m np N x) (hop : x.d.ops < 1000000) : Calls Tryz.prog 48 #[.pointer (some ⟨q, 0, none⟩)] w fun e w' => e = .returned (.int .i64 (x.takeE N)) ∧ RfV B q m np N (x.takeP N) w w' := by
  have hlen := h.len
  have H1 := Lib.hid (fun W (hb : Below w.heap.size w W) => rone_any (h.below hb) hop)
  have H := Lib.hid h
  obtain ⟨hD, ⟨L, vl, hL, hx⟩, hok, hN⟩ := h
  obtain ⟨K, hK⟩ : ∃ K, K = x.l.length := ⟨_, rfl⟩
  obtain ⟨av, cp, hvl, -⟩ := hL.row.form
  subst hvl
  have hKL : L.length = K := by rw [hK, ← hx, List.length_map]
  have g1 : w.cell? ⟨q, 1, none⟩ = some (.int .i64 (N : Int)) := cell_blk hL.pool 1
  have g2 : w.cell? ⟨q, 2, none⟩ = some (.slice av L.length cp) := cell_blk hL.pool 2
  rw [hKL] at g2
  have k5 : (K : Int) ≤ 4096 := by omega
  have n5 : (N : Int) ≤ 4096 := by omega
  have hcase : (K < N ∧ x.takeE N = 0 ∧ x.takeP N = x) ∨ (¬ K < N ∧ x.takeE N = x.oneE ∧ x.takeP N = x.oneP) := by
    unfold P.Po.takeE P.Po.takeP
    by_cases e : x.l.length < N
    · exact .inl ⟨by omega, by rw [if_pos e], by rw [if_pos e]⟩
    · exact .inr ⟨by omega, by rw [if_neg e], by rw [if_neg e]⟩
  clear hlen hD hL hx hok hN hK hKL
  rcases hcase with ⟨h1, h2, h3⟩ | ⟨h1, h2, h3⟩
  · rw [h2, h3]
    have i1 : (K : Int) < (N : Int) := by omega
    clear h2 h3 h1
    go_enter Tryz.func48, Tryz.ntmps48
    go_wp2
    go_quiet (fail)
    go_wp2
    go_ret
    exact ⟨rfl, H.out.self (below_drewN (Below.refl _ w) nq)⟩
  · rw [h2, h3]
    have i1 : (N : Int) ≤ (K : Int) := by omega
    clear h2 h3 h1
    go_enter Tryz.func48, Tryz.ntmps48
    go_wp2
    go_quiet (fail)
    have HBD := Lib.hid (below_drewN (Below.refl w.heap.size w) nq)
    have HS := Lib.hid (Ty.of_below (B := B) (T := rpT) HBD.out)
    have HW := Lib.hid (H1.out _ HBD.out)
    generalize w.drewN nq = wq at *
    go_wp2_with fail
    refine HW.out.mono ?_
    rintro e w1 (⟨h1, rfl, hb⟩ | ⟨h1, rfl, hV⟩)
    · have HE := Lib.hid h1
      have HB := Lib.hid hb
      clear h1 hb
      go_wp2
      go_ret
      refine ⟨by rw [HE.out]; rfl, ?_⟩
      have hP : x.oneP = x := by
        have h1 := HE.out
        unfold P.Po.oneE at h1
        unfold P.Po.oneP
        rcases hv : P.victim x.l with _ | f
        · rfl
        · rw [hv] at h1
          simp only at h1
          split at h1
          · rcases wrE_cases x.d with h2 | h2 <;> omega
          · omega
      rw [hP]
      exact H.out.self (HBD.out.trans (HB.out.mono HBD.out.size))
    · have HV := Lib.hid hV
      obtain ⟨E, hE⟩ : ∃ E, E = x.oneE := ⟨_, rfl⟩
      rw [← hE]
      have HE := Lib.hid hE
      clear h1 hV hE
      go_wp2
      go_ret
      exact ⟨by rw [← HE.out]; rfl, HV.out.1, HS.out.trans HV.out.2⟩
/-- A frame is added. -/
theorem RfL.add {w5 : World} {v5 : Value} {p : P.Fr × Value} (h : RfL B w q m N L vl) (ho : OV w5 B 80 4 v5 (L.length + 1) (rfCs L ++ rfC p)) (ht : Ty B (fun t => t = some 80) w w5) (hp : FrB w p) :
    (w5.cell? ⟨q, 2, none⟩ = some vl ∧ w5.frozen? ⟨q, 2, none⟩ = false) ∧ RfL B (w5.setCell ⟨q, 2, none⟩ v5) q m N (L ++ [p]) v5 ∧ Ty B plT w (w5.setCell ⟨q, 2, none⟩ v5) := by
  have hd := ht.cells h.pool (.inr (by decide))
  have t2 : Ty B pkT w5 (w5.setCell ⟨q, 2, none⟩ v5) := (Ty.refl _ _ _).setCell _ _ (.inr ⟨h.low, _, tagA_cells hd, rfl⟩)
  have t12 : Ty B plT w (w5.setCell ⟨q, 2, none⟩ v5) := (ht.mono (Nat.le_refl _) (fun _ h => .inr h)).trans (t2.mono (Nat.le_refl _) (fun _ h => .inl h))
  have hc : rfCs L ++ rfC p = rfCs (L ++ [p]) := by rw [rfCs_append]; simp [rfCs]
  have hl : L.length + 1 = (L ++ [p]).length := by simp
  rw [hc, hl] at ho
  refine ⟨⟨cell_blk hd 2, free_blk hd 2⟩, ⟨by rw [blk_setCell hd]; rfl, h.low, ho.ty t2 (fun _ _ => .inr (by decide)), fun p' hp' => ?_⟩, t12⟩
  rcases List.mem_append.1 hp' with h1 | h1
  · exact (h.pgs p' h1).ty t12 (by unfold plT; decide)
  · rw [List.mem_singleton] at h1
    subst h1
    exact hp.ty t12 (by unfold plT; decide)
theorem rfCs_set (L : List (P.Fr × Value)) (k f : Nat) (hk : k < L.length) (hf : f < 4) (p' : P.Fr × Value) (v : Value) (hv : rfC p' = (rfC L[k]).set f v) : (rfCs L).set (k * 4 + f) v = rfCs (L.set k p') := by
  induction L generalizing k with
  | nil => simp at hk
  | cons a L ih =>
    have ha : (rfC a).length = 4 := rfl
    cases k with
    | zero =>
      show (rfC a ++ rfCs L).set (0 * 4 + f) v = rfC p' ++ rfCs L
      rw [List.set_append_left _ _ (by omega), hv]
      simp
    | succ k =>
      show (rfC a ++ rfCs L).set ((k + 1) * 4 + f) v = rfC a ++ rfCs (L.set k p')
      rw [List.set_append_right _ _ (by omega), ha, show (k + 1) * 4 + f - 4 = k * 4 + f by omega, ih k (by simpa using hk) (by simpa using hv)]
/-- A frame's cell is turned. -/
theorem RfL.set {g cp : Nat} {k f : Nat} {p' : P.Fr × Value} {v : Value} (h : RfL B w q m N L (.slice (some ⟨g, 0, none⟩) L.length cp)) (hk : k < L.length) (hf : f < 4) (hv : rfC p' = (rfC L[k]).set f v) (hp : FrB w p') :
    w.frozen? ⟨g, k * 4 + f, none⟩ = false ∧ RfL B (w.setCell ⟨g, k * 4 + f, none⟩ v) q m N (L.set k p') (.slice (some ⟨g, 0, none⟩) L.length cp) ∧ Ty B plT w (w.setCell ⟨g, k * 4 + f, none⟩ v) := by
  have ht := OV.tag h.row g rfl
  have t1 : Ty B (fun t => t = some 80) w (w.setCell ⟨g, k * 4 + f, none⟩ v) := (Ty.refl _ _ _).setCell _ _ (.inr ⟨ht.2, _, ht.1, rfl⟩)
  have hs := (World.ownsRow.stored h.row (k * 4 + f) v).1
  rw [rfCs_set L k f hk hf p' v hv] at hs
  refine ⟨World.ownsRow.frozenAt h.row (k * 4 + f), ⟨t1.cells h.pool (.inr (by decide)), h.low, by rw [List.length_set]; exact hs, fun p1 hp1 => ?_⟩, t1.mono (Nat.le_refl _) (fun _ h => .inr h)⟩
  rcases List.mem_or_eq_of_mem_set hp1 with h1 | h1
  · exact (h.pgs p1 h1).ty t1 (by decide)
  · subst h1
    exact hp.ty t1 (by decide)
end Go.Proofs.YtocepcibcapfbaaGreat
/- The reference's pool: last. -/
namespace Go.Proofs.YtocepcibcapfbaaGreat
set_option linter.unusedVariables false
set_option linter.unusedSimpArgs false
set_option linter.unusedSectionVars false
open Go.RowKit
variable [Inhabited AvT]
variable {B : Nat} {w : World} {q m np N : Nat} {x : P.Po} {L : List (P.Fr × Value)} {vl : Value}

theorem rfC_one (p : P.Fr × Value) (h : p.2.oneCell' = true) : ∀ u ∈ rfC p, u.oneCell' = true := by
  intro u hu
  simp only [rfC, List.mem_cons, List.not_mem_nil, or_false] at hu
  rcases hu with rfl | rfl | rfl | rfl
  · rfl
  · rfl
  · rfl
  · exact h
/-- A frame in a block of its own, that is to be added. -/
def frO (p : P.Fr × Value) : Obj := .cells (rfC p).toArray 80
/-- What adding wants, and leaves. -/
structure AddR (B q m N : Nat) (L : List (P.Fr × Value)) (p : P.Fr × Value) (vl : Value) (w w1 : World) : Prop where
  own : OV (w1.alloc (frO p)) B 80 4 vl L.length (rfCs L)
  src : RV (w1.alloc (frO p)) (some ⟨w1.heap.size, 0, none⟩) 1 4 (rfC p)
  low : B ≤ (w1.alloc (frO p)).heap.size
  add : ∀ v6 w6, OV w6 B 80 4 v6 (L.length + 1) (rfCs L ++ rfC p) → Ty B (fun t => t = some 80) (w1.alloc (frO p)) w6 →
    (w6.cell? ⟨q, 2, none⟩ = some vl ∧ w6.frozen? ⟨q, 2, none⟩ = false) ∧ RfL B (w6.setCell ⟨q, 2, none⟩ v6) q m N (L ++ [p]) v6 ∧ Ty B plT w (w6.setCell ⟨q, 2, none⟩ v6)
theorem AddR.of {w1 : World} {p : P.Fr × Value} (h : RfL B w q m N L vl) (hb : Below w.heap.size w w1) (hp : FrB w p) : AddR B q m N L p vl w w1 := by
  have hb2 : Below w.heap.size w (w1.alloc (frO p)) := hb.alloc hb.size _
  have h5 := h.below hb2
  have hp5 := hp.ty (Ty.of_below (B := 0) (T := fun _ => False) hb2) id
  refine ⟨h5.row, RV_lit w1 _ 1 4 _ rfl (by unfold maxLen; omega), h5.lt.2, fun v6 w6 ho ht => ?_⟩
  obtain ⟨k1, k2, k3⟩ := h5.add ho ht hp5
  exact ⟨k1, k2, (Ty.of_below hb2).trans k3⟩
set_option maxRecDepth 100000 in
set_option maxHeartbeats 3200000 in
theorem rlast_any (h : RfL B w q m N L vl) (i : Nat) (hi : i < L.length) (hll : L.length ≤ 4096) : Calls Tryz.prog 50 #[.pointer (some ⟨q, 0, none⟩), .int .i64 (i : Int)] w fun e w' => e = .returned (.tuple #[]) ∧ (∃ vl', RfL B w' q m N (L.eraseIdx i ++ [L[i]]) vl') ∧ Ty B plT w w' := by
  obtain ⟨g, cp, rfl, hBg, hgl, hrv, hcp⟩ := h.row.pos (by omega)
  obtain ⟨p, hp, hc0, hc1, hc2, hc3⟩ := (show RFr w (some ⟨g, 0, none⟩) L from hrv).at i hi
  obtain ⟨a, n, c, hae, hrb⟩ := h.pgs L[i] (List.getElem_mem hi)
  obtain ⟨K, hK⟩ : ∃ K, K = L.length := ⟨_, rfl⟩
  have g2 : w.cell? ⟨q, 2, none⟩ = some (.slice (some ⟨g, 0, none⟩) L.length cp) := cell_blk h.pool 2
  rw [← hK] at g2
  have hiK : (i : Int) < (K : Int) := by omega
  have i0 : (0 : Int) ≤ (i : Int) := by omega
  rw [hae] at hc3
  obtain ⟨f, hf⟩ : ∃ f, f = L[i].1 := ⟨_, rfl⟩
  have hLi : L[i] = (f, .slice a n c) := by rw [hf, ← hae]
  rw [← hf] at hc0 hc1 hc2 hrb
  obtain ⟨wx, hwx⟩ : ∃ wx, wx = w.alloc (.cells #[.int .i64 (f.pg : Int), .int .i64 (f.pins : Int), .bool f.dirty, .slice a n c] 80) := ⟨_, rfl⟩
  have hbx : Below w.heap.size w wx := by rw [hwx]; exact (Below.refl _ w).alloc (Nat.le_refl _) _
  have kx : wx.heap[w.heap.size]? = some (.cells #[.int .i64 (f.pg : Int), .int .i64 (f.pins : Int), .bool f.dirty, .slice a n c] 80 (0, 0)) := by rw [hwx]; exact alloc_new _ _ _ rfl
  have hqs := h.lt.1
  have HX := Lib.hid (h.below hbx)
  have HO := Lib.hid (rout_any HX.out i hi (by omega))
  have HBX := Lib.hid hbx
  have HKX := Lib.hid kx
  have HWX := Lib.hid hwx
  have HFB := Lib.hid (show FrB wx (f, .slice a n c) from ⟨a, n, c, rfl, hrb.below hbx⟩)
  rw [hLi]
  have HEL := Lib.hid (show (L.eraseIdx i).length + 1 = L.length by rw [List.length_eraseIdx, if_pos hi]; omega)
  have HQW := Lib.hid (show q ≠ w.heap.size from fun e => by omega)
  clear h hrv hBg hgl hae hrb hf hLi hbx kx
  obtain rfl : p = ⟨g, 0, none⟩ := by cases hp; rfl
  simp only [Addr.add_lit, Nat.zero_add] at hc0 hc1 hc2 hc3
  have HK := Lib.hid hK
  have HLL := Lib.hid hll
  clear hp hK
  go_enter Tryz.func50, Tryz.ntmps50
  go_wp2_with fail
  rw [← hwx]
  clear hwx hc0 hc1 hc2 hc3 g2 hi hiK i0 hcp hll
  refine HO.out.mono ?_
  rintro e w1 ⟨rfl, ⟨vl1, h1⟩, ht1, hch⟩
  have kb := (hch.block _ (lt_of_block HKX.out) (fun e => HQW.out e.symm)).trans HKX.out
  have b0 := cell_blk kb
  have g2 : w1.cell? ⟨q, 2, none⟩ = some vl1 := cell_blk h1.pool 2
  have hl1 : (L.eraseIdx i).length ≤ 4095 := by have := HEL.out; have := HLL.out; omega
  have hb1 : ((L.eraseIdx i).length + 1) * 48 ≤ 140737488355328 := by omega
  have hb2 : (L.eraseIdx i).length + 1 ≤ 140737488355328 := by omega
  have HA := Lib.hid (AddR.of h1 (Below.refl _ w1).drew (HFB.out.ty ht1 (by decide)))
  have hq1 := h1.lt.1
  have hz1 := lt_of_block kb
  have HT1 := Lib.hid ((Ty.of_below (B := B) (T := plT) HBX.out).trans (ht1.mono (Nat.le_refl _) (fun _ h => .inl h)))
  have HONE := Lib.hid (rfC_one (f, .slice a n c) rfl)
  clear h1 ht1 hch kb
  go_wp2
  go_region_law ((refine step_appT framesT _ rfl _ _ rfl B vl1 _ _ rfl (by exact HA.out.own) (some ⟨w1.heap.size, 0, none⟩) 1 1 (rfC (f, .slice a n c)) rfl (by exact HA.out.src) HONE.out hb1 hb2 (by exact HA.out.low) ?_; intro v6 w6 ho6 hg6 hat6 ht6; obtain ⟨⟨g6, f6⟩, hd6⟩ := HA.out.add v6 w6 ho6 ht6; obtain ⟨a6, c6, hv6, -⟩ := ho6.form; subst hv6; have HD6 := Lib.hid hd6; clear ho6 hg6 hat6 ht6 hd6))
  all_goals
    go_wp2
    go_end0
    exact ⟨rfl, ⟨_, HD6.out.1⟩, HT1.out.trans HD6.out.2⟩
end Go.Proofs.YtocepcibcapfbaaGreat
/- The reference's pool: find in plain words; Pin. -/
namespace Go.Proofs.YtocepcibcapfbaaGreat
set_option linter.unusedVariables false
set_option linter.unusedSimpArgs false
set_option linter.unusedSectionVars false
open Go.RowKit
variable [Inhabited AvT]
variable {B : Nat} {w : World} {q m np N : Nat} {x : P.Po} {L : List (P.Fr × Value)} {vl : Value}

/-- How find ends. -/
def FdR (l : List P.Fr) (n : Int) (w : World) (e : Ending) (w' : World) : Prop :=
  Below w.heap.size w w' ∧ ((e = .returned (.int .i64 (-1)) ∧ (0 ≤ n → P.at? l n.toNat = none)) ∨ ∃ i, ∃ hi : i < l.length, e = .returned (.int .i64 (i : Int)) ∧ n = (l[i].pg : Int) ∧ P.at? l n.toNat = some l[i])
theorem rfindx (h : RfP B w q m np N x) (n : Int) (hn : inI n) : Calls Tryz.prog 47 #[.pointer (some ⟨q, 0, none⟩), .int .i64 n] w (FdR x.l n w) := by
  obtain ⟨hD, ⟨L, vl, hL, hx⟩, hok, hN⟩ := h
  obtain ⟨av, cp, hvl, hrv, hcp, -, -⟩ := hL.row.form
  subst hvl
  refine (rfind_any q m N av cp L n hn w hL.pool hrv).mono ?_
  rintro e w' ⟨r, rfl, hF, hb⟩
  rw [hx] at hF
  refine ⟨hb, ?_⟩
  rcases hF with ⟨rfl, h1⟩ | ⟨i, hi, rfl, h1, h2⟩
  · exact .inl ⟨rfl, fun h0 => P.at_no (fun f hf e => h1 f hf (by omega))⟩
  · refine .inr ⟨i, hi, rfl, h1.symm, ?_⟩
    have e : n.toNat = x.l[i].pg := by omega
    rw [e]
    exact P.at_get hok.1 i hi
/-- Where the frame that was added last stands. -/
structure PinT (B q m N : Nat) (L : List (P.Fr × Value)) (f : P.Fr) (a : Option Addr) (l c g cp : Nat) (w w4 : World) : Prop where
  row : w.cell? ⟨q, 2, none⟩ = some (.slice (some ⟨g, 0, none⟩) (L.length + 1) cp)
  pins : w.cell? ⟨g, L.length * 4 + 1, none⟩ = some (.int .i64 (f.pins : Int))
  free : w.frozen? ⟨g, L.length * 4 + 1, none⟩ = false
  ne : q ≠ g
  bytes : w.cell? ⟨g, L.length * 4 + 3, none⟩ = some (.slice a l c)
  rd : RB w4 a l f.b
  pool : ∃ vl, RfL B w4 q m N (L ++ [({ f with pins := f.pins + 1 }, .slice a l c)]) vl
  ty : Ty B plT w w4
theorem PinT.of {f : P.Fr} {a : Option Addr} {l c : Nat} (h : RfL B w q m N (L ++ [(f, .slice a l c)]) vl) : ∃ g cp, PinT B q m N L f a l c g cp w (w.setCell ⟨g, L.length * 4 + 1, none⟩ (.int .i64 ((f.pins : Int) + 1))) := by
  obtain ⟨g, cp, rfl, hBg, hgl, hrv, hcp⟩ := h.row.pos (by simp)
  have hll : (L ++ [(f, Value.slice a l c)]).length = L.length + 1 := by simp
  have hkl : L.length < (L ++ [(f, Value.slice a l c)]).length := by simp
  have hLk : (L ++ [(f, Value.slice a l c)])[L.length] = (f, Value.slice a l c) := by simp
  obtain ⟨p, hp, hc0, hc1, hc2, hc3⟩ := (show RFr w (some ⟨g, 0, none⟩) _ from hrv).at L.length hkl
  cases hp
  rw [hLk] at hc1 hc3
  simp only [Addr.add_lit, Nat.zero_add] at hc1 hc3
  obtain ⟨a1, n1, c1, e1, hrb⟩ := h.pgs (f, .slice a l c) (by simp)
  cases e1
  have hs := h.set (k := L.length) (f := 1) (p' := ({ f with pins := f.pins + 1 }, .slice a l c)) (v := .int .i64 ((f.pins : Int) + 1)) hkl (by omega) (by rw [hLk]; simp [rfC]) ⟨a, l, c, rfl, hrb⟩
  have hset : (L ++ [(f, Value.slice a l c)]).set L.length ({ f with pins := f.pins + 1 }, .slice a l c) = L ++ [({ f with pins := f.pins + 1 }, .slice a l c)] := by simp
  obtain ⟨h1, h2, h3⟩ := hs
  rw [hset] at h2
  have hq : w.cell? ⟨q, 2, none⟩ = some (.slice (some ⟨g, 0, none⟩) (L.length + 1) cp) := by have := h.pool; rw [hll] at this; exact cell_blk this 2
  exact ⟨g, cp, hq, hc1, h1, fun e => by have h5 := (OV.tag h.row g rfl).1; rw [← e, tagA_cells h.pool] at h5; simp at h5, hc3, hrb.ty h3 (by decide), ⟨_, h2⟩, h3⟩
/-- How Pin ends. -/
def PiR (B q m np N : Nat) (x : P.Po) (n : Int) (w : World) (e : Ending) (w' : World) : Prop :=
  ∃ a l c, e = .returned (.tuple #[.slice a l c, .int .i64 (x.pinE N np n)]) ∧ (x.pinE N np n = 0 → Rd w' a l (x.pinB N np n)) ∧ (x.pinE N np n ≠ 0 → a = none ∧ l = 0) ∧ RfV B q m np N (x.pinP N np n) w w'
theorem PiR.no {n E : Int} {w' : World} (hE : x.pinE N np n = E) (h0 : E ≠ 0) (hV : RfV B q m np N (x.pinP N np n) w w') : PiR B q m np N x n w (.returned (.tuple #[.slice none 0 0, .int .i64 E])) w' :=
  ⟨none, 0, 0, by rw [hE], fun h => absurd (hE ▸ h) h0, fun _ => ⟨rfl, rfl⟩, hV⟩
theorem takeE_cases (x : P.Po) : x.takeE N = 0 ∨ x.takeE N = 6 ∨ x.takeE N = 7 := by
  unfold P.Po.takeE
  split
  · exact .inl rfl
  · unfold P.Po.oneE
    split
    · exact .inr (.inl rfl)
    · split
      · rcases wrE_cases x.d with h | h <;> omega
      · exact .inl rfl
theorem rdE_case (x : P.Dv) : x.rdE = 0 ∨ x.rdE = 7 := by unfold P.Dv.rdE; split <;> simp
set_option maxRecDepth 100000 in
set_option maxHeartbeats 6400000 in
theorem rpin_any (h : RfP B w q m np N x) (n : Int) (hn : inI n) (hop : x.d.ops < 999000) (hpin : ∀ f ∈ x.l, f.pins < 1000000) : Calls Tryz.prog 11 #[.pointer (some ⟨q, 0, none⟩), .int .i64 n] w (PiR B q m np N x n w) := by
  have hok' := P.pin_ok h.2.2.1 n
  have hlen := h.len
  have H := Lib.hid h
  have HOK := Lib.hid hok'
  have HLEN := Lib.hid hlen
  have HPIN := Lib.hid hpin
  have HOP := Lib.hid hop
  have HN := Lib.hid hn
  obtain ⟨hD, ⟨L, vl, hL, hx⟩, hok, hNN⟩ := h
  have HNN := Lib.hid hNN
  obtain ⟨vs, gn, cn, vw, ao, no, co, ns, ls, Cn, hS⟩ := hD
  have g1 : w.cell? ⟨m, 1, none⟩ = some (.slice (some ⟨gn, 0, none⟩) np cn) := cell_blk hS.dev 1
  have hnp := hS.big.2.1
  have HPA := Lib.hid (rpage_any m np _ cn n hn hnp.2 w g1)
  have g0 : w.cell? ⟨q, 0, none⟩ = some (.pointer (some ⟨m, 0, none⟩)) := cell_blk hL.pool 0
  clear hok' hlen hpin hop hn hL hx hok hNN hS hnp g1
  by_cases hr : 0 ≤ n ∧ n < (np : Int)
  rotate_left
  · have hd : decide (0 ≤ n ∧ n < (np : Int)) = false := decide_eq_false hr
    rw [hd] at HPA
    have hor : n < 0 ∨ (np : Int) ≤ n := by omega
    have hE : x.pinE N np n = 1 ∧ x.pinP N np n = x := by unfold P.Po.pinE P.Po.pinP; rw [if_pos hor, if_pos hor]; exact ⟨rfl, rfl⟩
    have HE := Lib.hid hE
    clear hr hd hor hE
    go_enter Tryz.func11, Tryz.ntmps11
    go_wp2_with fail
    refine HPA.out.mono ?_
    rintro e w1 ⟨rfl, hb⟩
    have HF := Lib.hid (show PiR B q m np N x n w (.returned (.tuple #[.slice none 0 0, .int .i64 1])) w1 from PiR.no HE.out.1 (by omega) (by rw [HE.out.2]; exact H.out.self hb))
    clear hb g0
    go_wp2
    go_ret2
    exact HF.out
  have hd : decide (0 ≤ n ∧ n < (np : Int)) = true := decide_eq_true hr
  rw [hd] at HPA
  have hnor : ¬ (n < 0 ∨ (np : Int) ≤ n) := by omega
  have HR := Lib.hid hr
  have HNO := Lib.hid hnor
  clear hd hr hnor
  go_enter Tryz.func11, Tryz.ntmps11
  go_wp2_with fail
  refine HPA.out.mono ?_
  rintro e w1 ⟨rfl, hb1⟩
  have HB1 := Lib.hid hb1
  have H1 := Lib.hid (H.out.below hb1)
  have HFD := Lib.hid (rfindx H1.out n HN.out)
  clear hb1 g0
  go_wp2_with fail
  refine HFD.out.mono ?_
  rintro e w2 ⟨hb2, hfd⟩
  have HB2 := Lib.hid (HB1.out.trans (hb2.mono HB1.out.size))
  have H2 := Lib.hid (H.out.below HB2.out)
  clear hb2
  rcases hfd with ⟨rfl, hno⟩ | ⟨i, hi, rfl, hni, hat⟩
  · have HAT := Lib.hid (hno HR.out.1)
    clear hno
    have HTK := Lib.hid (rtake_any H2.out (by have := HOP.out; omega))
    obtain ⟨E, hE⟩ : ∃ E, E = x.takeE N := ⟨_, rfl⟩
    have hEc := takeE_cases (N := N) x
    rw [← hE] at HTK hEc
    have HE := Lib.hid hE
    clear hE
    go_wp2_with fail
    refine HTK.out.mono ?_
    rintro e w3 ⟨rfl, hP3, hT3⟩
    have HP3 := Lib.hid hP3
    have HT3 := Lib.hid ((Ty.of_below (B := B) (T := rpT) HB2.out).trans hT3)
    clear hP3 hT3
    have hbad : E ≠ 0 → PiR B q m np N x n w (.returned (.tuple #[.slice none 0 0, .int .i64 E])) w3 := fun h0 => by
      have hE : x.pinE N np n = E ∧ x.pinP N np n = x.takeP N := by
        unfold P.Po.pinE P.Po.pinP
        rw [if_neg HNO.out, if_neg HNO.out, HAT.out]
        have h1 : x.takeE N ≠ 0 := by rw [← HE.out]; exact h0
        simp only [if_neg h1]
        exact ⟨HE.out.symm, trivial⟩
      exact PiR.no hE.1 h0 (by rw [hE.2]; exact ⟨HP3.out, HT3.out⟩)
    have HBAD := Lib.hid hbad
    clear hbad
    rcases hEc with rfl | rfl | rfl
    rotate_left
    · have HF := Lib.hid (HBAD.out (by omega))
      go_wp2
      go_ret2
      exact HF.out
    · have HF := Lib.hid (HBAD.out (by omega))
      go_wp2
      go_ret2
      exact HF.out
    have hD3 := HP3.out.1
    have hLV := HP3.out.2.1
    obtain ⟨L3, vl3, hL3, hx3⟩ := hLV
    have g0 : w3.cell? ⟨q, 0, none⟩ = some (.pointer (some ⟨m, 0, none⟩)) := cell_blk hL3.pool 0
    have hops : (x.takeP N).d.ops < 1000000 := by have h1 := P.take_ops x N; have := HOP.out; omega
    have HRD := Lib.hid (rread_any hD3 n HN.out hops)
    have HL3 := Lib.hid hL3
    have HX3 := Lib.hid hx3
    obtain ⟨E, hE⟩ : ∃ E, E = (x.takeP N).d.rdE := ⟨_, rfl⟩
    have hEc := rdE_case (x.takeP N).d
    rw [← hE] at hEc
    have HE2 := Lib.hid hE
    clear hE hD3 hL3 hx3 hops
    go_wp2_with fail
    refine HRD.out.mono ?_
    rintro e w4 (⟨h1, -, -⟩ | ⟨-, hD4, hT4, a4, l4, c4, rfl, h7, h0⟩)
    · exact absurd HR.out h1
    rw [← HE2.out] at h7 h0 ⊢
    have HD4 := Lib.hid hD4
    have HL4 := Lib.hid (HL3.out.devd hT4)
    have HT4 := Lib.hid (HT3.out.trans (rf_rp hT4))
    clear hD4 hT4 g0
    rcases hEc with rfl | rfl
    rotate_left
    · obtain ⟨rfl, rfl, rfl⟩ := h7 rfl
      have HF := Lib.hid (show PiR B q m np N x n w (.returned (.tuple #[.slice none 0 0, .int .i64 7])) w4 from by
        have hE : x.pinE N np n = 7 ∧ x.pinP N np n = ⟨(x.takeP N).d.rdD, (x.takeP N).l⟩ := by
          unfold P.Po.pinE P.Po.pinP
          rw [if_neg HNO.out, if_neg HNO.out, HAT.out]
          simp only [if_pos HE.out.symm, ← HE2.out]
          exact ⟨trivial, by simp⟩
        have hok := HOK.out
        rw [hE.2] at hok
        exact PiR.no hE.1 (by omega) (by rw [hE.2]; exact ⟨⟨HD4.out, ⟨L3, vl3, HL4.out, HX3.out⟩, hok, HNN.out⟩, HT4.out⟩))
      clear h0 h7
      go_wp2
      go_ret2
      exact HF.out
    obtain ⟨hl4, hrb4⟩ := h0 rfl
    subst hl4
    obtain ⟨k, rfl⟩ : ∃ k : Nat, n = (k : Int) := ⟨n.toNat, by have := HR.out; omega⟩
    rw [Int.toNat_natCast] at hrb4
    have HF4 := Lib.hid (show FrB w4 (⟨k, 0, false, P.pgD (x.takeP N).d.img k⟩, .slice a4 256 c4) from ⟨a4, 256, c4, rfl, hrb4⟩)
    have HA := Lib.hid (AddR.of HL4.out (Below.refl _ w4) HF4.out)
    have hK4 : L3.length ≤ 4096 := by have h1 := HP3.out.len; rw [← HX3.out, List.length_map] at h1; exact h1
    have hb1 : (L3.length + 1) * 48 ≤ 140737488355328 := by omega
    have hb2 : L3.length + 1 ≤ 140737488355328 := by omega
    have g2 : w4.cell? ⟨q, 2, none⟩ = some vl3 := cell_blk HL4.out.pool 2
    have HONE := Lib.hid (rfC_one (⟨k, 0, false, P.pgD (x.takeP N).d.img k⟩, .slice a4 256 c4) rfl)
    have hfin : ∀ w' : World, ∀ vl', RfL B w' q m N (L3 ++ [(⟨k, 1, false, P.pgD (x.takeP N).d.img k⟩, .slice a4 256 c4)]) vl' → Ty B plT w4 w' → ∀ v w5, OB w5 w'.heap.size v (P.pgD (x.takeP N).d.img k) → Below w'.heap.size w' w5 → PiR B q m np N x (k : Int) w (.returned (.tuple #[v, .int .i64 0])) w5 := fun w' vl' hl ht v w5 ho hb => by
      obtain ⟨a5, c5, rfl, hr5, -⟩ := ho.form
      have hE : x.pinE N np (k : Int) = 0 ∧ x.pinP N np (k : Int) = ⟨(x.takeP N).d.rdD, (x.takeP N).l ++ [⟨k, 1, false, P.pgD (x.takeP N).d.img k⟩]⟩ ∧ x.pinB N np (k : Int) = P.pgD (x.takeP N).d.img k := by
        have h1 := HAT.out
        unfold P.Po.pinE P.Po.pinP P.Po.pinB
        rw [if_neg HNO.out, if_neg HNO.out, if_neg HNO.out, h1]
        simp [← HE.out, ← HE2.out]
      have hok := HOK.out
      rw [hE.2.1] at hok
      refine ⟨a5, _, c5, by rw [hE.1], fun _ => by rw [hE.2.2]; exact hr5, fun h => absurd hE.1 h, ?_⟩
      rw [hE.2.1]
      refine ⟨⟨(HD4.out.pl ht).below hb, ⟨_, _, hl.below hb, ?_⟩, hok, HNN.out⟩, (HT4.out.trans (pl_rp ht)).trans (Ty.of_below hb)⟩
      rw [List.map_append, HX3.out]
      rfl
    have HFIN := Lib.hid hfin
    clear h7 h0 hrb4 hfin
    go_wp2_with (at_builtin; refine wpList_appT framesT _ rfl _ _ rfl B vl3 _ _ rfl HA.out.own (some ⟨w4.heap.size, 0, none⟩) 1 1 (rfC (⟨k, 0, false, P.pgD (x.takeP N).d.img k⟩, .slice a4 256 c4)) rfl HA.out.src HONE.out hb1 hb2 HA.out.low ?_)
    intro v6 w6 ho6 hg6 hat6 ht6
    obtain ⟨⟨g6, f6⟩, hl6, ht6'⟩ := HA.out.add v6 w6 ho6 ht6
    obtain ⟨a6, c6, hv6, -⟩ := ho6.form
    subst hv6
    obtain ⟨wz, hwz⟩ : ∃ wz, wz = w6.setCell ⟨q, 2, none⟩ (.slice a6 (L3.length + 1) c6) := ⟨_, rfl⟩
    rw [← hwz] at hl6 ht6'
    clear g2
    go_upto_region 13 with (fail)
    rw [← hwz]
    obtain ⟨g, cp, hPT⟩ := PinT.of hl6
    have p1 := hPT.row
    have p2 := hPT.pins
    have p3 := hPT.free
    have p5 := hPT.bytes
    have p6 := hPT.ne
    have p7 : ¬ g = q := fun e => p6 e.symm
    have hrd := hPT.rd
    obtain ⟨vl8, hl8⟩ := hPT.pool
    have HT8 := Lib.hid (ht6'.trans hPT.ty)
    obtain ⟨K, hK⟩ : ∃ K, K = L3.length := ⟨_, rfl⟩
    have k9 : (K : Int) ≤ 5000 := by omega
    have z1 : wrap64 ((K : Int) + 1) = (K : Int) + 1 := by simp [wrap64]; omega
    obtain ⟨z, hz⟩ : ∃ z, z = (⟨k, 0, false, P.pgD (x.takeP N).d.img k⟩ : P.Fr).pins := ⟨_, rfl⟩
    have z0 : z < 1000000 := by rw [hz]; show (0 : Nat) < 1000000; omega
    have z4 : wrap64 ((z : Int) + 1) = (z : Int) + 1 := by simp [wrap64]; omega
    clear z0
    rw [← hK] at p1 p2 p3 p5 hrd hl8 HT8
    rw [← hz] at p2 hrd hl8 HT8
    obtain ⟨w8, hw8⟩ : ∃ w8, w8 = wz.setCell ⟨g, K * 4 + 1, none⟩ (.int .i64 ((z : Int) + 1)) := ⟨_, rfl⟩
    rw [← hw8] at hrd hl8 HT8
    have HCP := Lib.hid (copy_any a4 256 c4 _ w8 hrd.1 (by omega))
    have HL8 := Lib.hid hl8
    have HKZ := Lib.hid (And.intro hK hz)
    have j0 : (0 : Int) ≤ (K : Int) := by omega
    have j1 : (K : Int) < (K : Int) + 1 := by omega
    clear hPT hl6 ht6' hrd hl8 hK hz ho6 hg6 hat6 ht6 hb1 hb2 hK4 hwz g6 f6
    go_wp2_with fail
    rw [← hw8]
    refine HCP.out.mono ?_
    rintro e w9 ⟨v9, rfl, ho9, hb9⟩
    have HF := Lib.hid (HFIN.out w8 vl8 (by have h1 := HL8.out; rw [HKZ.out.2] at h1; exact h1) HT8.out v9 w9 ho9 hb9)
    clear ho9 hb9 p1 p2 p3 p5 hw8
    go_wp2
    go_ret2
    exact HF.out
  · have hk5 : (i : Int) < 5000 := by have := HLEN.out; omega
    have i0 : ¬ (i : Int) < 0 := by omega
    have hD2 := H2.out.1
    have hLV := H2.out.2.1
    obtain ⟨L2, vl2, hL2, hx2⟩ := hLV
    have hiL : i < L2.length := by rw [← hx2, List.length_map] at hi; exact hi
    have hfi : x.l[i] = L2[i].1 := by
      have h6 : x.l[i]? = some L2[i].1 := by rw [← hx2, List.getElem?_map, List.getElem?_eq_getElem hiL]; rfl
      exact (List.getElem?_eq_some_iff.1 h6).2
    have HLA := Lib.hid (rlast_any hL2 i hiL (by have h1 := HLEN.out; rw [← hx2, List.length_map] at h1; exact h1))
    obtain ⟨a4, l4, c4, hae, hrb0⟩ := hL2.pgs L2[i] (List.getElem_mem hiL)
    obtain ⟨f, hf⟩ : ∃ f, f = x.l[i] := ⟨_, rfl⟩
    have hLi : L2[i] = (f, .slice a4 l4 c4) := by rw [hf, hfi, ← hae]
    rw [hLi] at HLA
    have hpf : f.pins < 1000000 := by rw [hf]; exact HPIN.out _ (List.getElem_mem hi)
    have HXL := Lib.hid (show L2.length = x.l.length by rw [← hx2, List.length_map])
    have HFL := Lib.hid (show l4 ≤ 256 by
      obtain ⟨a', n', c', e', hrb'⟩ := hL2.pgs L2[i] (List.getElem_mem hiL)
      rw [hLi] at e' hrb'
      cases e'
      have h1 := hrb'.1.1
      have h2 := (H.out.2.2.1.2.1 x.l[i] (List.getElem_mem hi)).2
      rw [← hf] at h2
      simp only at h1
      omega)
    have hoff : P.off x.l f.pg = (L2.eraseIdx i).map Prod.fst := by rw [hf, P.off_erase x.l i hi H.out.2.2.1.1, ← hx2, erase_map]
    have hat' : P.at? x.l n.toNat = some f := by rw [hf]; exact hat
    have hnn : n.toNat = f.pg := by rw [hf]; omega
    have HAT := Lib.hid (And.intro hat' (And.intro hoff hnn))
    have HPF := Lib.hid hpf
    have HD2 := Lib.hid hD2
    clear hat hni hx2 hL2 hfi hae hrb0 hf hLi hpf hoff hat' hnn hD2 hiL hi
    go_wp2_with fail
    refine HLA.out.mono ?_
    rintro e w6 ⟨rfl, ⟨vl6, hl6⟩, ht6'⟩
    have hfin : ∀ w' : World, ∀ vl', RfL B w' q m N (L2.eraseIdx i ++ [({ f with pins := f.pins + 1 }, .slice a4 l4 c4)]) vl' → Ty B plT w2 w' → ∀ v w5, OB w5 w'.heap.size v f.b → Below w'.heap.size w' w5 → PiR B q m np N x n w (.returned (.tuple #[v, .int .i64 0])) w5 := fun w' vl' hl ht v w5 ho hb => by
      obtain ⟨a5, c5, rfl, hr5, -⟩ := ho.form
      have hE : x.pinE N np n = 0 ∧ x.pinP N np n = ⟨x.d, P.off x.l n.toNat ++ [{ f with pins := f.pins + 1 }]⟩ ∧ x.pinB N np n = f.b := by
        have h1 := HAT.out.1
        unfold P.Po.pinE P.Po.pinP P.Po.pinB
        rw [if_neg HNO.out, if_neg HNO.out, if_neg HNO.out, h1]
        exact ⟨rfl, rfl, rfl⟩
      have hok := HOK.out
      rw [hE.2.1] at hok
      refine ⟨a5, _, c5, by rw [hE.1], fun _ => by rw [hE.2.2]; exact hr5, fun h => absurd hE.1 h, ?_⟩
      rw [hE.2.1]
      refine ⟨⟨(HD2.out.pl ht).below hb, ⟨_, _, hl.below hb, ?_⟩, hok, HNN.out⟩, ((Ty.of_below HB2.out).trans (pl_rp ht)).trans (Ty.of_below hb)⟩
      rw [List.map_append, HAT.out.2.2, HAT.out.2.1]
      rfl
    have HFIN := Lib.hid hfin
    clear hfin
    obtain ⟨wz, hwz⟩ : ∃ wz, wz = w6 := ⟨_, rfl⟩
    rw [← hwz] at hl6 ht6' ⊢
    obtain ⟨g, cp, hPT⟩ := PinT.of hl6
    have p1 := hPT.row
    have p2 := hPT.pins
    have p3 := hPT.free
    have p5 := hPT.bytes
    have p6 := hPT.ne
    have p7 : ¬ g = q := fun e => p6 e.symm
    have hrd := hPT.rd
    obtain ⟨vl8, hl8⟩ := hPT.pool
    have HT8 := Lib.hid (ht6'.trans hPT.ty)
    obtain ⟨K, hK⟩ : ∃ K, K = (L2.eraseIdx i).length := ⟨_, rfl⟩
    have k9 : (K : Int) ≤ 5000 := by have h1 := List.length_eraseIdx_le L2 i; have h2 := HLEN.out; have h3 := HXL.out; omega
    have z1 : wrap64 ((K : Int) + 1) = (K : Int) + 1 := by simp [wrap64]; omega
    obtain ⟨z, hz⟩ : ∃ z, z = (f).pins := ⟨_, rfl⟩
    have z0 : z < 1000000 := by rw [hz]; exact HPF.out
    have z4 : wrap64 ((z : Int) + 1) = (z : Int) + 1 := by simp [wrap64]; omega
    clear z0
    rw [← hK] at p1 p2 p3 p5 hrd hl8 HT8
    rw [← hz] at p2 hrd hl8 HT8
    obtain ⟨w8, hw8⟩ : ∃ w8, w8 = wz.setCell ⟨g, K * 4 + 1, none⟩ (.int .i64 ((z : Int) + 1)) := ⟨_, rfl⟩
    rw [← hw8] at hrd hl8 HT8
    have HCP := Lib.hid (copy_any a4 l4 c4 _ w8 hrd.1 (by have := hrd.1.2.1; have := HFL.out; omega))
    have HL8 := Lib.hid hl8
    have HKZ := Lib.hid (And.intro hK hz)
    have j0 : (0 : Int) ≤ (K : Int) := by omega
    have j1 : (K : Int) < (K : Int) + 1 := by omega
    clear hPT hl6 ht6' hrd hl8 hK hz hwz hk5 i0
    go_wp2_with fail
    rw [← hw8]
    refine HCP.out.mono ?_
    rintro e w9 ⟨v9, rfl, ho9, hb9⟩
    have HF := Lib.hid (HFIN.out w8 vl8 (by have h1 := HL8.out; rw [HKZ.out.2] at h1; exact h1) HT8.out v9 w9 ho9 hb9)
    clear ho9 hb9 p1 p2 p3 p5 hw8
    go_wp2
    go_ret2
    exact HF.out
end Go.Proofs.YtocepcibcapfbaaGreat
/- The reference's pool: Unpin, Forget. -/
namespace Go.Proofs.YtocepcibcapfbaaGreat
set_option linter.unusedVariables false
set_option linter.unusedSimpArgs false
set_option linter.unusedSectionVars false
open Go.RowKit
variable [Inhabited AvT]
variable {B : Nat} {w : World} {q m np N : Nat} {x : P.Po} {L : List (P.Fr × Value)} {vl : Value}

/-- A frame's cells, where the row is one of the pool's own. -/
theorem RfL.cellsAt (h : RfL B w q m N L vl) (k : Nat) (hk : k < L.length) : ∃ g cp a l c, vl = .slice (some ⟨g, 0, none⟩) L.length cp ∧ w.cell? ⟨q, 2, none⟩ = some (.slice (some ⟨g, 0, none⟩) L.length cp) ∧ q ≠ g ∧ L[k].2 = .slice a l c ∧ RB w a l L[k].1.b ∧
    w.cell? ⟨g, k * 4, none⟩ = some (.int .i64 (L[k].1.pg : Int)) ∧ w.cell? ⟨g, k * 4 + 1, none⟩ = some (.int .i64 (L[k].1.pins : Int)) ∧ w.cell? ⟨g, k * 4 + 2, none⟩ = some (.bool L[k].1.dirty) ∧ w.cell? ⟨g, k * 4 + 3, none⟩ = some (.slice a l c) := by
  obtain ⟨g, cp, rfl, hBg, hgl, hrv, hcp⟩ := h.row.pos (by omega)
  obtain ⟨p, hp, hc0, hc1, hc2, hc3⟩ := (show RFr w (some ⟨g, 0, none⟩) _ from hrv).at k hk
  cases hp
  simp only [Addr.add_lit, Nat.zero_add] at hc0 hc1 hc2 hc3
  obtain ⟨a, l, c, e1, hrb⟩ := h.pgs L[k] (List.getElem_mem hk)
  rw [e1] at hc3
  exact ⟨g, cp, a, l, c, rfl, cell_blk h.pool 2, fun e => by have h5 := (OV.tag h.row g rfl).1; rw [← e, tagA_cells h.pool] at h5; simp at h5, e1, hrb, hc0, hc1, hc2, hc3⟩
theorem get_fst {l : List P.Fr} (hx : L.map Prod.fst = l) (i : Nat) (hi : i < l.length) : ∃ hL : i < L.length, l[i] = L[i].1 := by
  have hL : i < L.length := by rw [← hx, List.length_map] at hi; exact hi
  have h6 : l[i]? = some L[i].1 := by rw [← hx, List.getElem?_map, List.getElem?_eq_getElem hL]; rfl
  exact ⟨hL, (List.getElem?_eq_some_iff.1 h6).2⟩
set_option maxRecDepth 100000 in
set_option maxHeartbeats 3200000 in
theorem runpin_any (h : RfP B w q m np N x) (n : Int) (hn : inI n) (hpin : ∀ f ∈ x.l, f.pins ≤ 1000000) : Calls Tryz.prog 14 #[.pointer (some ⟨q, 0, none⟩), .int .i64 n] w fun e w' => e = .returned (.int .i64 (x.unE n)) ∧ RfV B q m np N (x.unP n) w w' := by
  have HFD := Lib.hid (rfindx h n hn)
  have H := Lib.hid h
  have HOK := Lib.hid (P.un_ok h.2.2.1 n)
  have HLEN := Lib.hid h.len
  have HPIN := Lib.hid hpin
  have hbad : ¬ 0 < P.pins? x.l n → ∀ w', Below w.heap.size w w' → Ending.returned (.int .i64 10) = .returned (.int .i64 (x.unE n)) ∧ RfV B q m np N (x.unP n) w w' := fun h0 w' hb => by
    unfold P.Po.unE P.Po.unP
    rw [if_neg h0, if_neg h0]
    exact ⟨rfl, H.out.self hb⟩
  have HBAD := Lib.hid hbad
  clear h hn hpin hbad
  go_enter Tryz.func14, Tryz.ntmps14
  go_wp2_with fail
  refine HFD.out.mono ?_
  rintro e w1 ⟨hb1, ⟨rfl, hno⟩ | ⟨i, hi, rfl, hni, hat⟩⟩
  · have HF := Lib.hid (HBAD.out (by
      unfold P.pins?
      by_cases h0 : n < 0
      · rw [if_pos h0]; omega
      · rw [if_neg h0, hno (by omega)]; simp) w1 hb1)
    clear hb1 hno
    go_wp2
    go_ret
    exact HF.out
  · have HB1 := Lib.hid hb1
    obtain ⟨hD, ⟨L, vl, hL, hx⟩, hok, hNN⟩ := H.out.below hb1
    obtain ⟨hiL, hfi⟩ := get_fst hx i hi
    have hnn : n.toNat = x.l[i].pg := by omega
    have hpp : P.pins? x.l n = x.l[i].pins := by unfold P.pins?; rw [if_neg (by omega), hat]
    have hmap := fun F => P.map_set x.l i hi F hok.1
    have hpm := HPIN.out _ (List.getElem_mem hi)
    obtain ⟨f, hf⟩ : ∃ f, f = x.l[i] := ⟨_, rfl⟩
    rw [← hf] at hnn hpp hmap hpm hfi
    obtain ⟨g, cp, a, l, c, hvl, g2, hqg, hae, hrb, c0, c1, c2, c3⟩ := hL.cellsAt i hiL
    subst hvl
    have hLi : L[i] = (f, .slice a l c) := by rw [← hae, hfi]
    rw [hLi] at hrb c0 c1 c2
    obtain ⟨K, hK⟩ : ∃ K, K = L.length := ⟨_, rfl⟩
    have hset := fun (v : Nat) => hL.set (k := i) (f := 1) (p' := ({ f with pins := v }, .slice a l c)) (v := .int .i64 (v : Int)) hiL (by omega) (by rw [hLi]; simp [rfC]) ⟨a, l, c, rfl, hrb⟩
    rw [← hK] at g2
    have i1 : (i : Int) < (K : Int) := by omega
    have i0 : (0 : Int) ≤ (i : Int) := by omega
    have i2 : ¬ (i : Int) < 0 := by omega
    have k9 : (K : Int) ≤ 5000 := by have h1 := HLEN.out; rw [← hx, List.length_map] at h1; omega
    have nq : ¬ g = q := fun e => hqg e.symm
    obtain ⟨z, hz⟩ : ∃ z, z = f.pins := ⟨_, rfl⟩
    rw [← hz] at c1 hpp hpm
    have HX := Lib.hid (And.intro hx (And.intro hnn (And.intro hmap (And.intro hD (And.intro hok (And.intro hNN hz))))))
    have HSET := Lib.hid hset
    have HPP := Lib.hid hpp
    clear hb1 hni hat hx hnn hmap hD hok hNN hz hset hpp hf hfi hLi hae hrb hL hK c0 c2 c3 hi hiL
    rcases z with _ | z
    · have HF := Lib.hid (HBAD.out (by rw [HPP.out]; omega) w1 HB1.out)
      clear hpm
      go_wp2
      go_ret
      exact HF.out
    · have hs := HSET.out z
      have fz := hs.1
      have z1 : ((z : Int) + 1 == 0) = false := by simp; omega
      have z4 : wrap64 (z : Int) = (z : Int) := by simp [wrap64]; omega
      have c1' : w1.cell? ⟨g, i * 4 + 1, none⟩ = some (.int .i64 ((z : Int) + 1)) := c1
      have HF := Lib.hid (show RfV B q m np N (x.unP n) w (w1.setCell ⟨g, i * 4 + 1, none⟩ (.int .i64 (z : Int))) from by
        have hP : x.unP n = ⟨x.d, (L.set i ({ f with pins := z }, .slice a l c)).map Prod.fst⟩ := by
          unfold P.Po.unP
          rw [if_pos (by rw [HPP.out]; omega), HX.out.2.1, HX.out.2.2.1, List.map_set, HX.out.1]
          have e : f.pins - 1 = z := by have := HX.out.2.2.2.2.2.2; omega
          rw [e]
        have hok := HOK.out
        refine ⟨⟨?_, ⟨_, _, hs.2.1, by rw [hP]⟩, hok, HX.out.2.2.2.2.2.1⟩, (Ty.of_below HB1.out).trans (pl_rp hs.2.2)⟩
        rw [hP]
        exact HX.out.2.2.2.1.pl hs.2.2)
      have HE := Lib.hid (show x.unE n = 0 by unfold P.Po.unE; rw [if_pos (by rw [HPP.out]; omega)])
      clear hs hpm c1
      go_wp2
      go_ret
      exact ⟨by rw [HE.out]; rfl, HF.out⟩
set_option maxRecDepth 100000 in
set_option maxHeartbeats 3200000 in
theorem rforget_any (h : RfP B w q m np N x) (n : Int) (hn : inI n) : Calls Tryz.prog 19 #[.pointer (some ⟨q, 0, none⟩), .int .i64 n] w fun e w' => e = .returned (.bool (x.forB n)) ∧ RfV B q m np N (x.forP n) w w' := by
  have HFD := Lib.hid (rfindx h n hn)
  have H := Lib.hid h
  have HOK := Lib.hid (P.for_ok h.2.2.1 n)
  have HLEN := Lib.hid h.len
  have hbad : x.forB n = false → ∀ w', Below w.heap.size w w' → Ending.returned (.bool false) = .returned (.bool (x.forB n)) ∧ RfV B q m np N (x.forP n) w w' := fun h0 w' hb => by
    unfold P.Po.forP
    rw [h0]
    exact ⟨rfl, H.out.self hb⟩
  have HBAD := Lib.hid hbad
  clear h hn hbad
  go_enter Tryz.func19, Tryz.ntmps19
  go_wp2_with fail
  refine HFD.out.mono ?_
  rintro e w1 ⟨hb1, ⟨rfl, hno⟩ | ⟨i, hi, rfl, hni, hat⟩⟩
  · have HF := Lib.hid (HBAD.out (by
      unfold P.Po.forB
      by_cases h0 : 0 ≤ n
      · rw [hno h0]; simp
      · simp [h0]) w1 hb1)
    clear hb1 hno
    go_wp2
    go_ret
    exact HF.out
  · have HB1 := Lib.hid hb1
    obtain ⟨hD, ⟨L, vl, hL, hx⟩, hok, hNN⟩ := H.out.below hb1
    obtain ⟨hiL, hfi⟩ := get_fst hx i hi
    have hnn : n.toNat = x.l[i].pg := by omega
    have hn0 : (0 : Int) ≤ n := by omega
    have hpp : x.forB n = (x.l[i].pins == 0) := by unfold P.Po.forB; rw [hat]; simp [hn0]
    have hoff : P.off x.l n.toNat = (L.eraseIdx i).map Prod.fst := by rw [hnn, P.off_erase x.l i hi hok.1, ← hx, erase_map]
    obtain ⟨g, cp, a, l, c, hvl, g2, hqg, hae, hrb, c0, c1, c2, c3⟩ := hL.cellsAt i hiL
    subst hvl
    rw [← hfi] at c1
    have HL1 := Lib.hid hL
    have HOUT := Lib.hid (rout_any hL i hiL (by have h1 := HLEN.out; rw [← hx, List.length_map] at h1; omega))
    obtain ⟨K, hK⟩ : ∃ K, K = L.length := ⟨_, rfl⟩
    rw [← hK] at g2
    have i1 : (i : Int) < (K : Int) := by omega
    have i0 : (0 : Int) ≤ (i : Int) := by omega
    have i2 : ¬ (i : Int) < 0 := by omega
    obtain ⟨z, hz⟩ : ∃ z, z = x.l[i].pins := ⟨_, rfl⟩
    rw [← hz] at c1 hpp
    have HX := Lib.hid (And.intro hoff (And.intro hD (And.intro hok hNN)))
    have HPP := Lib.hid hpp
    clear hb1 hni hat hx hnn hn0 hD hok hNN hz hpp hoff hfi hae hrb hL hK c0 c2 c3
    rcases z with _ | z
    · have HB := Lib.hid (show x.forB n = true by rw [HPP.out]; rfl)
      go_wp2_with fail
      refine HOUT.out.mono ?_
      rintro e w2 ⟨rfl, ⟨vl', hl2⟩, ht2, -⟩
      have HF := Lib.hid (show RfV B q m np N (x.forP n) w w2 from by
        have hP : x.forP n = ⟨x.d, P.off x.l n.toNat⟩ := by unfold P.Po.forP; rw [if_pos HB.out]
        have hok := HOK.out
        refine ⟨⟨?_, ⟨_, _, hl2, by rw [hP]; exact HX.out.1.symm⟩, hok, HX.out.2.2.2⟩, (Ty.of_below HB1.out).trans (pk_rp ht2)⟩
        rw [hP]
        exact HX.out.2.1.pk ht2)
      clear hl2 ht2 c1 g2
      go_wp2
      go_ret
      exact ⟨by rw [HB.out]; rfl, HF.out⟩
    · have HF := Lib.hid (HBAD.out (by rw [HPP.out]; rfl) w1 HB1.out)
      have c1' : w1.cell? ⟨g, i * 4 + 1, none⟩ = some (.int .i64 ((z : Int) + 1)) := c1
      have z1 : (0 : Int) < (z : Int) + 1 := by omega
      clear c1
      go_wp2
      go_ret
      exact HF.out
end Go.Proofs.YtocepcibcapfbaaGreat
/- The reference's pool: Put. -/
namespace Go.Proofs.YtocepcibcapfbaaGreat
set_option linter.unusedVariables false
set_option linter.unusedSimpArgs false
set_option linter.unusedSectionVars false
open Go.RowKit
variable [Inhabited AvT]
variable {B : Nat} {w : World} {q m np N : Nat} {x : P.Po} {L : List (P.Fr × Value)} {vl : Value}

/-- The frame that was added last: its bytes are others. -/
structure PutB (B q m N : Nat) (L : List (P.Fr × Value)) (f : P.Fr) (b : List UInt8) (a7 : Option Addr) (c7 g cp : Nat) (w7 w8 : World) : Prop where
  free : w7.frozen? ⟨g, L.length * 4 + 3, none⟩ = false
  row : w8.cell? ⟨q, 2, none⟩ = some (.slice (some ⟨g, 0, none⟩) (L.length + 1) cp)
  old : w8.cell? ⟨g, L.length * 4 + 2, none⟩ = some (.bool f.dirty)
  free2 : w8.frozen? ⟨g, L.length * 4 + 2, none⟩ = false
  pool : ∃ vl, RfL B (w8.setCell ⟨g, L.length * 4 + 2, none⟩ (.bool true)) q m N (L ++ [({ f with b := b, dirty := true }, .slice a7 256 c7)]) vl
  ty : Ty B plT w7 (w8.setCell ⟨g, L.length * 4 + 2, none⟩ (.bool true))
  ty8 : Ty B plT w7 w8
structure PutT (B q m N : Nat) (L : List (P.Fr × Value)) (f : P.Fr) (a : Option Addr) (l c g cp : Nat) (w : World) : Prop where
  row : w.cell? ⟨q, 2, none⟩ = some (.slice (some ⟨g, 0, none⟩) (L.length + 1) cp)
  ne : q ≠ g
  lt : q < w.heap.size ∧ g < w.heap.size
  old : w.cell? ⟨g, L.length * 4 + 3, none⟩ = some (.slice a l c)
  put : ∀ w7, Below w.heap.size w w7 → ∀ a7 c7 b, RB w7 a7 256 b → PutB B q m N L f b a7 c7 g cp w7 (w7.setCell ⟨g, L.length * 4 + 3, none⟩ (.slice a7 256 c7))
theorem PutT.of {f : P.Fr} {a : Option Addr} {l c : Nat} (h : RfL B w q m N (L ++ [(f, .slice a l c)]) vl) : ∃ g cp, PutT B q m N L f a l c g cp w := by
  have hll : (L ++ [(f, Value.slice a l c)]).length = L.length + 1 := by simp
  have hkl : L.length < (L ++ [(f, Value.slice a l c)]).length := by simp
  have hLk : (L ++ [(f, Value.slice a l c)])[L.length] = (f, Value.slice a l c) := by simp
  obtain ⟨g, cp, a1, l1, c1, rfl, g2, hne, hae, hrb, k0, k1, k2, k3⟩ := h.cellsAt L.length hkl
  rw [hLk] at hae hrb k0 k1 k2
  cases hae
  have g2' := g2
  rw [hll] at g2'
  refine ⟨g, cp, g2', hne, ⟨lt_of_block h.pool, lt_of_cell k3⟩, k3, fun w7 hb a7 c7 b hr => ?_⟩
  have h7 := h.below hb
  have hs := h7.set (k := L.length) (f := 3) (p' := ({ f with b := b }, .slice a7 256 c7)) (v := .slice a7 256 c7) hkl (by omega) (by rw [hLk]; simp [rfC]) ⟨a7, 256, c7, rfl, hr⟩
  have hset : ∀ y, (L ++ [(f, Value.slice a l c)]).set L.length y = L ++ [y] := fun y => by simp
  obtain ⟨f7, h8, t8⟩ := hs
  rw [hset] at h8
  have hll8 : (L ++ [(({ f with b := b } : P.Fr), Value.slice a7 256 c7)]).length = L.length + 1 := by simp
  have hkl8 : L.length < (L ++ [(({ f with b := b } : P.Fr), Value.slice a7 256 c7)]).length := by simp
  have hLk8 : (L ++ [(({ f with b := b } : P.Fr), Value.slice a7 256 c7)])[L.length] = (({ f with b := b } : P.Fr), Value.slice a7 256 c7) := by simp
  rw [hll, ← hll8] at h8
  obtain ⟨g', cp', a1', l1', c1', hv, g2'', hne', hae', hrb', k0', k1', k2', k3'⟩ := h8.cellsAt L.length hkl8
  cases hv
  rw [hLk8] at k2' hrb' hae'
  cases hae'
  have hs2 := h8.set (k := L.length) (f := 2) (p' := ({ f with b := b, dirty := true }, .slice a7 256 c7)) (v := .bool true) hkl8 (by omega) (by rw [hLk8]; simp [rfC]) ⟨a7, 256, c7, rfl, hrb'⟩
  have hset8 : ∀ y, (L ++ [(({ f with b := b } : P.Fr), Value.slice a7 256 c7)]).set L.length y = L ++ [y] := fun y => by simp
  obtain ⟨f8, h9, t9⟩ := hs2
  rw [hset8] at h9
  rw [hll8] at g2''
  exact ⟨f7, g2'', k2', f8, ⟨_, h9⟩, t8.trans t9, t8⟩
/-- How Put ends. -/
def PuR (B q m np N : Nat) (x : P.Po) (n : Int) (b : List UInt8) (w : World) (e : Ending) (w' : World) : Prop := e = .returned (.int .i64 (x.putE N np n b)) ∧ RfV B q m np N (x.putP N np n b) w w'
set_option maxRecDepth 100000 in
set_option maxHeartbeats 6400000 in
theorem rput_any (h : RfP B w q m np N x) (n : Int) (hn : inI n) (a : Option Addr) (len c : Nat) (b : List UInt8) (hr : RB w a len b) (hlen : len ≤ 1048576) (hop : x.d.ops < 999000) : Calls Tryz.prog 17 #[.pointer (some ⟨q, 0, none⟩), .int .i64 n, .slice a len c] w (PuR B q m np N x n b w) := by
  have hok' := P.put_ok h.2.2.1 n b
  have H := Lib.hid h
  have HOK := Lib.hid hok'
  have HLEN := Lib.hid h.len
  have HOP := Lib.hid hop
  have HN := Lib.hid hn
  have HRB := Lib.hid hr
  have HBL := Lib.hid hr.1.1
  obtain ⟨hD, ⟨L, vl, hL, hx⟩, hok, hNN⟩ := h
  have HNN := Lib.hid hNN
  obtain ⟨vs, gn, cn, vw, ao, no, co, ns, ls, Cn, hS⟩ := hD
  have g1 : w.cell? ⟨m, 1, none⟩ = some (.slice (some ⟨gn, 0, none⟩) np cn) := cell_blk hS.dev 1
  have hnp := hS.big.2.1
  have HPA := Lib.hid (rpage_any m np _ cn n hn hnp.2 w g1)
  have g0 : w.cell? ⟨q, 0, none⟩ = some (.pointer (some ⟨m, 0, none⟩)) := cell_blk hL.pool 0
  have hbad : (n < 0 ∨ (np : Int) ≤ n ∨ b.length ≠ 256) → ∀ w', Below w.heap.size w w' → PuR B q m np N x n b w (.returned (.int .i64 1)) w' := fun hc w' hb => by
    unfold PuR P.Po.putE P.Po.putP
    rw [if_pos hc, if_pos hc]
    exact ⟨rfl, H.out.self hb⟩
  have HBAD := Lib.hid hbad
  clear hok' hop hn hL hx hok hNN hS hnp g1 hr hbad
  by_cases hrg : 0 ≤ n ∧ n < (np : Int)
  rotate_left
  · have hd : decide (0 ≤ n ∧ n < (np : Int)) = false := decide_eq_false hrg
    rw [hd] at HPA
    have HOR := Lib.hid (show n < 0 ∨ (np : Int) ≤ n ∨ b.length ≠ 256 by omega)
    clear hrg hd hlen
    go_enter Tryz.func17, Tryz.ntmps17
    go_wp2_with fail
    refine HPA.out.mono ?_
    rintro e w1 ⟨rfl, hb⟩
    have HF := Lib.hid (HBAD.out HOR.out w1 hb)
    clear hb g0
    go_wp2
    go_ret
    exact HF.out
  have hd : decide (0 ≤ n ∧ n < (np : Int)) = true := decide_eq_true hrg
  rw [hd] at HPA
  have HR := Lib.hid hrg
  clear hd hrg
  by_cases h256 : len = 256
  rotate_left
  · have z1 : ((len : Int) != 256) = true := by simp; omega
    have HOR := Lib.hid (show n < 0 ∨ (np : Int) ≤ n ∨ b.length ≠ 256 by have := HBL.out; omega)
    clear hlen h256
    go_enter Tryz.func17, Tryz.ntmps17
    go_wp2_with fail
    refine HPA.out.mono ?_
    rintro e w1 ⟨rfl, hb⟩
    have HF := Lib.hid (HBAD.out HOR.out w1 hb)
    clear hb g0
    go_wp2
    go_ret
    exact HF.out
  subst h256
  have HNO := Lib.hid (show ¬ (n < 0 ∨ (np : Int) ≤ n ∨ b.length ≠ 256) by have h1 := HR.out; have h2 := HBL.out; omega)
  clear hlen
  go_enter Tryz.func17, Tryz.ntmps17
  go_wp2_with fail
  refine HPA.out.mono ?_
  rintro e w1 ⟨rfl, hb1⟩
  have HB1 := Lib.hid hb1
  have H1 := Lib.hid (H.out.below hb1)
  have HFD := Lib.hid (rfindx H1.out n HN.out)
  clear hb1 g0
  go_wp2_with fail
  refine HFD.out.mono ?_
  rintro e w2 ⟨hb2, hfd⟩
  have HB2 := Lib.hid (HB1.out.trans (hb2.mono HB1.out.size))
  have H2 := Lib.hid (H.out.below HB2.out)
  clear hb2
  rcases hfd with ⟨rfl, hno⟩ | ⟨i, hi, rfl, hni, hat⟩
  · have HAT := Lib.hid (hno HR.out.1)
    clear hno
    have HTK := Lib.hid (rtake_any H2.out (by have := HOP.out; omega))
    obtain ⟨E, hE⟩ : ∃ E, E = x.takeE N := ⟨_, rfl⟩
    have hEc := takeE_cases (N := N) x
    rw [← hE] at HTK hEc
    have HE := Lib.hid hE
    clear hE
    go_wp2_with fail
    refine HTK.out.mono ?_
    rintro e w4 ⟨rfl, hP3, hT3⟩
    have HP3 := Lib.hid hP3
    have HT3 := Lib.hid ((Ty.of_below (B := B) (T := rpT) HB2.out).trans hT3)
    clear hP3 hT3
    have hbad : E ≠ 0 → PuR B q m np N x n b w (.returned (.int .i64 E)) w4 := fun h0 => by
      have h1 : x.takeE N ≠ 0 := by rw [← HE.out]; exact h0
      unfold PuR P.Po.putE P.Po.putP
      rw [if_neg HNO.out, if_neg HNO.out, HAT.out]
      simp only [if_neg h1]
      exact ⟨by rw [HE.out], HP3.out, HT3.out⟩
    have HBAD := Lib.hid hbad
    clear hbad
    rcases hEc with rfl | rfl | rfl
    rotate_left
    · have HF := Lib.hid (HBAD.out (by omega))
      go_wp2
      go_ret
      exact HF.out
    · have HF := Lib.hid (HBAD.out (by omega))
      go_wp2
      go_ret
      exact HF.out
    have hLV := HP3.out.2.1
    obtain ⟨L3, vl3, hL3, hx3⟩ := hLV
    have HX3 := Lib.hid hx3
    have HL4 := Lib.hid hL3
    obtain ⟨k, rfl⟩ : ∃ k : Nat, n = (k : Int) := ⟨n.toNat, by have := HR.out; omega⟩
    have HA := Lib.hid (AddR.of (p := (⟨k, 0, false, []⟩, .slice none 0 0)) hL3 (Below.refl _ w4) ⟨none, 0, 0, rfl, Rd.nil _ _, fun h => by omega⟩)
    have hK4 : L3.length ≤ 4096 := by have h1 := HP3.out.len; rw [← HX3.out, List.length_map] at h1; exact h1
    have hb1 : (L3.length + 1) * 48 ≤ 140737488355328 := by omega
    have hb2 : L3.length + 1 ≤ 140737488355328 := by omega
    have g2 : w4.cell? ⟨q, 2, none⟩ = some vl3 := cell_blk HL4.out.pool 2
    have HONE := Lib.hid (rfC_one (⟨k, 0, false, []⟩, .slice none 0 0) rfl)
    have hfin : ∀ w' : World, ∀ vl' a7 c7, RfL B w' q m N (L3 ++ [(⟨k, 0, true, b⟩, .slice a7 256 c7)]) vl' → Ty B plT w4 w' → PuR B q m np N x (k : Int) b w (.returned (.int .i64 0)) w' := fun w' vl' a7 c7 hl ht => by
      have hE : x.putE N np (k : Int) b = 0 ∧ x.putP N np (k : Int) b = ⟨(x.takeP N).d, (x.takeP N).l ++ [⟨k, 0, true, b⟩]⟩ := by
        have h1 := HAT.out
        unfold P.Po.putE P.Po.putP
        rw [if_neg HNO.out, if_neg HNO.out, h1]
        simp [← HE.out]
      have hok := HOK.out
      refine ⟨by rw [hE.1], ?_⟩
      rw [hE.2] at hok ⊢
      refine ⟨⟨HP3.out.1.pl ht, ⟨_, _, hl, ?_⟩, hok, HNN.out⟩, HT3.out.trans (pl_rp ht)⟩
      rw [List.map_append, HX3.out]
      rfl
    have HFIN := Lib.hid hfin
    have HRB4 := Lib.hid (show RB w4 a 256 b from HRB.out.ty HT3.out (by unfold rpT rfT; decide))
    clear hfin hL3 hx3
    go_wp2_with (at_builtin; refine wpList_appT framesT _ rfl _ _ rfl B vl3 _ _ rfl HA.out.own (some ⟨w4.heap.size, 0, none⟩) 1 1 (rfC (⟨k, 0, false, []⟩, .slice none 0 0)) rfl HA.out.src HONE.out hb1 hb2 HA.out.low ?_)
    intro v6 w6 ho6 hg6 hat6 ht6
    obtain ⟨⟨g6, f6⟩, hl6, ht6'⟩ := HA.out.add v6 w6 ho6 ht6
    obtain ⟨a6, c6, hv6, -⟩ := ho6.form
    subst hv6
    obtain ⟨wz, hwz⟩ : ∃ wz, wz = w6.setCell ⟨q, 2, none⟩ (.slice a6 (L3.length + 1) c6) := ⟨_, rfl⟩
    rw [← hwz] at hl6 ht6'
    clear g2
    go_upto_region 10 with (fail)
    rw [← hwz]
    have hrz : RB wz a 256 b := HRB4.out.ty ht6' (by decide)
    clear ho6 hg6 hat6 ht6 hwz g6 f6 hb1 hb2
    obtain ⟨K, hK⟩ : ∃ K, K = L3.length := ⟨_, rfl⟩
    have k9 : (K : Int) ≤ 5000 := by omega
    clear hK4
    obtain ⟨g, cp, hPT⟩ := PutT.of hl6
    have p1 := hPT.row
    have p3 := hPT.old
    have p6 := hPT.ne
    have p7 : ¬ g = q := fun e => p6 e.symm
    have plt := hPT.lt
    have hput := hPT.put
    rw [← hK] at p1 p3
    have HKP := Lib.hid (show ∀ w', Below wz.heap.size wz w' → w'.cell? ⟨q, 2, none⟩ = some (.slice (some ⟨g, 0, none⟩) (K + 1) cp) from fun w' h => (h.cell (p := ⟨q, 2, none⟩) plt.1).trans p1)
    have HKO := Lib.hid (show ∀ w', Below wz.heap.size wz w' → ∃ v, w'.cell? ⟨g, K * 4 + 3, none⟩ = some v from fun w' h => ⟨_, (h.cell (p := ⟨g, K * 4 + 3, none⟩) plt.2).trans p3⟩)
    have HCP := Lib.hid (copy_any a 256 c b wz.drew hrz.1 (by omega))
    have HTZ0 := Lib.hid ht6'
    have HAV := Lib.hid (show ∀ k, av k → k < wz.drew.heap.size from fun k hk => by
      have h1 := H.out.1.avs k hk
      have h2 := (show w.heap.size ≤ wz.heap.size from Nat.le_trans HT3.out.size HTZ0.out.size)
      exact Nat.lt_of_lt_of_le h1 h2)
    have HPUT := Lib.hid hput
    have HTZ := Lib.hid ht6'
    have HKK := Lib.hid hK
    have j0 : (0 : Int) ≤ (K : Int) := by omega
    have j1 : (K : Int) < (K : Int) + 1 := by omega
    clear hPT hl6 ht6' hput hK hrz plt p3
    go_wp2
    go_region_held3 (fun w' => w'.cell? ⟨q, 2, none⟩ = some (.slice (some ⟨g, 0, none⟩) (K + 1) cp))
      (first
        | (go_keep; done)
        | exact HKP.out _ (below_of_drew HB7.out)
        | exact HK8.out)
      ((go_at_call 51; refine HCP.out.mono ?_; rintro e w7 ⟨v7, rfl, ho7, hb7⟩; have HB7 := Lib.hid hb7; obtain ⟨a7, c7, hv7, -⟩ := ho7.form; rw [HBL.out] at hv7; subst hv7; have HR7 := Lib.hid (OB.rb ho7 HAV.out); obtain ⟨vo7, hc7⟩ := HKO.out w7 (below_of_drew hb7); have hpb := HPUT.out w7 (below_of_drew hb7) a7 c7 b HR7.out; have hf7 := hpb.free; have hr8 := hpb.row; rw [← HKK.out] at hf7 hr8; have HK8 := Lib.hid hr8; have HPB := Lib.hid hpb; clear hb7 ho7 hpb hr8))
    have p8 := HPB.out.row
    have p9 := HPB.out.old
    have pf := HPB.out.free2
    have hpool := HPB.out.pool
    have hty := HPB.out.ty
    rw [← HKK.out] at p8 p9 pf hpool hty
    generalize World.setCell w7 ⟨g, K * 4 + 3, none⟩ (.slice a7 256 c7) = w8 at p8 p9 pf hpool hty ⊢
    obtain ⟨vl9, hl9⟩ := hpool
    have HF := Lib.hid (HFIN.out _ vl9 a7 c7 hl9 (HTZ.out.trans ((Ty.of_below (below_of_drew HB7.out)).trans hty)))
    clear hl9 hty
    go_wp2
    go_ret
    exact HF.out
  · have i0 : ¬ (i : Int) < 0 := by omega
    have hD2 := H2.out.1
    have hLV := H2.out.2.1
    obtain ⟨L2, vl2, hL2, hx2⟩ := hLV
    obtain ⟨hiL, hfi⟩ := get_fst hx2 i hi
    have HLA := Lib.hid (rlast_any hL2 i hiL (by have h1 := HLEN.out; rw [← hx2, List.length_map] at h1; exact h1))
    obtain ⟨a4, l4, c4, hae, -⟩ := hL2.pgs L2[i] (List.getElem_mem hiL)
    obtain ⟨f, hf⟩ : ∃ f, f = x.l[i] := ⟨_, rfl⟩
    have hLi : L2[i] = (f, .slice a4 l4 c4) := by rw [hf, hfi, ← hae]
    rw [hLi] at HLA
    have HXL := Lib.hid (show L2.length = x.l.length by rw [← hx2, List.length_map])
    have hoff : P.off x.l f.pg = (L2.eraseIdx i).map Prod.fst := by rw [hf, P.off_erase x.l i hi H.out.2.2.1.1, ← hx2, erase_map]
    have hat' : P.at? x.l n.toNat = some f := by rw [hf]; exact hat
    have hnn : n.toNat = f.pg := by rw [hf]; omega
    have HAT := Lib.hid (And.intro hat' (And.intro hoff hnn))
    have HD2 := Lib.hid hD2
    have hK4 : (L2.eraseIdx i).length ≤ 4096 := by have h1 := List.length_eraseIdx_le L2 i; have h2 := HLEN.out; have h3 := HXL.out; omega
    clear hat hni hx2 hL2 hfi hae hf hLi hoff hat' hnn hD2 hiL hi
    go_wp2_with fail
    refine HLA.out.mono ?_
    rintro e wz ⟨rfl, ⟨vl6, hl6⟩, ht6'⟩
    have hfin : ∀ w' : World, ∀ vl' a7 c7, RfL B w' q m N (L2.eraseIdx i ++ [({ f with b := b, dirty := true }, .slice a7 256 c7)]) vl' → Ty B plT w2 w' → PuR B q m np N x n b w (.returned (.int .i64 0)) w' := fun w' vl' a7 c7 hl ht => by
      have hE : x.putE N np n b = 0 ∧ x.putP N np n b = ⟨x.d, P.off x.l n.toNat ++ [⟨n.toNat, f.pins, true, b⟩]⟩ := by
        have h1 := HAT.out.1
        unfold P.Po.putE P.Po.putP
        rw [if_neg HNO.out, if_neg HNO.out, h1]
        exact ⟨rfl, rfl⟩
      have hok := HOK.out
      refine ⟨by rw [hE.1], ?_⟩
      rw [hE.2] at hok ⊢
      refine ⟨⟨HD2.out.pl ht, ⟨_, _, hl, ?_⟩, hok, HNN.out⟩, (Ty.of_below HB2.out).trans (pl_rp ht)⟩
      rw [List.map_append, HAT.out.2.2, HAT.out.2.1]
      rfl
    have HFIN := Lib.hid hfin
    have hrz : RB wz a 256 b := (HRB.out.below HB2.out).ty ht6' (by decide)
    clear hfin
    obtain ⟨K, hK⟩ : ∃ K, K = (L2.eraseIdx i).length := ⟨_, rfl⟩
    have k9 : (K : Int) ≤ 5000 := by omega
    clear hK4 i0
    obtain ⟨g, cp, hPT⟩ := PutT.of hl6
    have p1 := hPT.row
    have p3 := hPT.old
    have p6 := hPT.ne
    have p7 : ¬ g = q := fun e => p6 e.symm
    have plt := hPT.lt
    have hput := hPT.put
    rw [← hK] at p1 p3
    have HKP := Lib.hid (show ∀ w', Below wz.heap.size wz w' → w'.cell? ⟨q, 2, none⟩ = some (.slice (some ⟨g, 0, none⟩) (K + 1) cp) from fun w' h => (h.cell (p := ⟨q, 2, none⟩) plt.1).trans p1)
    have HKO := Lib.hid (show ∀ w', Below wz.heap.size wz w' → ∃ v, w'.cell? ⟨g, K * 4 + 3, none⟩ = some v from fun w' h => ⟨_, (h.cell (p := ⟨g, K * 4 + 3, none⟩) plt.2).trans p3⟩)
    have HCP := Lib.hid (copy_any a 256 c b wz.drew hrz.1 (by omega))
    have HTZ0 := Lib.hid ht6'
    have HAV := Lib.hid (show ∀ k, av k → k < wz.drew.heap.size from fun k hk => by
      have h1 := H.out.1.avs k hk
      have h2 := (show w.heap.size ≤ wz.heap.size from Nat.le_trans HB2.out.size HTZ0.out.size)
      exact Nat.lt_of_lt_of_le h1 h2)
    have HPUT := Lib.hid hput
    have HTZ := Lib.hid ht6'
    have HKK := Lib.hid hK
    have j0 : (0 : Int) ≤ (K : Int) := by omega
    have j1 : (K : Int) < (K : Int) + 1 := by omega
    clear hPT hl6 ht6' hput hK hrz plt p3
    go_wp2
    go_region_held3 (fun w' => w'.cell? ⟨q, 2, none⟩ = some (.slice (some ⟨g, 0, none⟩) (K + 1) cp))
      (first
        | (go_keep; done)
        | exact HKP.out _ (below_of_drew HB7.out)
        | exact HK8.out)
      ((go_at_call 51; refine HCP.out.mono ?_; rintro e w7 ⟨v7, rfl, ho7, hb7⟩; have HB7 := Lib.hid hb7; obtain ⟨a7, c7, hv7, -⟩ := ho7.form; rw [HBL.out] at hv7; subst hv7; have HR7 := Lib.hid (OB.rb ho7 HAV.out); obtain ⟨vo7, hc7⟩ := HKO.out w7 (below_of_drew hb7); have hpb := HPUT.out w7 (below_of_drew hb7) a7 c7 b HR7.out; have hf7 := hpb.free; have hr8 := hpb.row; rw [← HKK.out] at hf7 hr8; have HK8 := Lib.hid hr8; have HPB := Lib.hid hpb; clear hb7 ho7 hpb hr8))
    have p8 := HPB.out.row
    have p9 := HPB.out.old
    have pf := HPB.out.free2
    have hpool := HPB.out.pool
    have hty := HPB.out.ty
    rw [← HKK.out] at p8 p9 pf hpool hty
    generalize World.setCell w7 ⟨g, K * 4 + 3, none⟩ (.slice a7 256 c7) = w8 at p8 p9 pf hpool hty ⊢
    obtain ⟨vl9, hl9⟩ := hpool
    have HF := Lib.hid (HFIN.out _ vl9 a7 c7 hl9 (HTZ.out.trans ((Ty.of_below (below_of_drew HB7.out)).trans hty)))
    clear hl9 hty
    go_wp2
    go_ret
    exact HF.out
end Go.Proofs.YtocepcibcapfbaaGreat
