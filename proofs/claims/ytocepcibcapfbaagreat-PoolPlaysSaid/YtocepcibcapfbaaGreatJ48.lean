/- The reference's pool: Flush, Evict, NewPool. -/
import Derived.Test.YtocepcibcapfbaaGreatJ47
namespace Go.Proofs.YtocepcibcapfbaaGreat
set_option linter.unusedVariables false
set_option linter.unusedSimpArgs false
set_option linter.unusedSectionVars false
open Go.RowKit
variable [Inhabited AvT]
variable {B : Nat} {w : World} {q m np N : Nat} {x : P.Po} {L : List (P.Fr × Value)} {vl : Value}

theorem one6 (x : P.Po) (h1 : x.oneE = 6) : x.oneP = x := by
  unfold P.Po.oneE at h1
  unfold P.Po.oneP
  rcases hv : P.victim x.l with _ | f
  · rfl
  · rw [hv] at h1
    simp only at h1
    split at h1
    · rcases wrE_cases x.d with h2 | h2 <;> omega
    · omega
theorem oneE_cases (x : P.Po) : x.oneE = 0 ∨ x.oneE = 6 ∨ x.oneE = 7 := by
  unfold P.Po.oneE
  split
  · exact .inr (.inl rfl)
  · split
    · rcases wrE_cases x.d with h | h <;> omega
    · exact .inl rfl
/-- One page was cleaned: those that were there still are. -/
theorem clean_there (y : P.Po) (n k : Nat) (h : (P.at? y.l k).isSome = true) : (P.at? (P.clean1 y n).l k).isSome = true := by
  unfold P.clean1
  split
  · show (P.at? (if y.d.wrE = 0 then _ else y.l) k).isSome = true
    split
    · obtain ⟨f, hf⟩ := Option.isSome_iff_exists.1 h
      have hm := P.at_some hf
      unfold P.at?
      rw [List.find?_isSome]
      refine ⟨if f.pg = n then { f with dirty := false } else f, List.mem_map_of_mem hm.1, ?_⟩
      have e : (if f.pg = n then { f with dirty := false } else f).pg = f.pg := by split <;> rfl
      rw [e, hm.2]
      simp
    · exact h
  · exact h
theorem dirt_there (x : P.Po) (np : Nat) : ∀ n ∈ x.dirt np, n < np ∧ (P.at? x.l n).isSome = true := by
  intro n hn
  unfold P.Po.dirt at hn
  rw [List.mem_filter, List.mem_range] at hn
  refine ⟨hn.1, ?_⟩
  rcases h : P.at? x.l n with _ | f
  · rw [h] at hn; simp at hn
  · rfl
set_option maxRecDepth 100000 in
set_option maxHeartbeats 6400000 in
theorem rflush_any (h : RfP B w q m np N x) (hop : x.d.ops < 990000) : Calls Tryz.prog 21 #[.pointer (some ⟨q, 0, none⟩)] w fun e w' => e = .returned (.int .i64 (P.flushE (x.dirt np) x)) ∧ RfV B q m np N (P.flushP (x.dirt np) x) w w' := by
  have HDI := Lib.hid (rdirty_any h)
  have H := Lib.hid h
  have hdt := dirt_there x np
  have hdl := P.dirt_len np x
  have hnp : np ≤ 4096 := by
    obtain ⟨⟨vs, gn, cn, vw, ao, no, co, ns, ls, Cn, hS⟩, -⟩ := h
    exact hS.big.2.1.2
  obtain ⟨D, hD⟩ : ∃ D, D = x.dirt np := ⟨_, rfl⟩
  rw [← hD] at HDI hdt hdl ⊢
  have HDT := Lib.hid hdt
  have HOP := Lib.hid hop
  have HNP := Lib.hid hnp
  clear h hdt hD hop hnp
  go_enter Tryz.func21, Tryz.ntmps21
  go_wp2_with fail
  refine HDI.out.mono ?_
  rintro e w1 ⟨v, rfl, ho, hb1⟩
  obtain ⟨a1, c1, hv1, hri, -⟩ := ho.form
  subst hv1
  have HO := Lib.hid ho
  have HB1 := Lib.hid hb1
  have h1 := H.out.below hb1
  have hlen5 : D.length ≤ 4096 := by have := HNP.out; omega
  clear ho hb1 hri hdl
  go_wp2
  go_loopw [4] (fun s4 wr => ∃ k : Nat, k ≤ D.length ∧ s4 = .int .i64 k ∧ OV wr w.heap.size 3 1 (.slice a1 D.length c1) D.length (ivs (D.map Int.ofNat)) ∧ ∃ y : P.Po, RfP B wr q m np N y ∧ Ty B rpT w wr ∧ P.flushE (D.drop k) y = P.flushE D x ∧ P.flushP (D.drop k) y = P.flushP D x ∧ (∀ n ∈ D.drop k, n < np ∧ (P.at? y.l n).isSome = true) ∧ y.d.ops ≤ x.d.ops + k) (fun s4 _ => D.length - (intOf s4).toNat)
  case atStart => exact ⟨0, Nat.zero_le _, rfl, HO.out, x, h1, Ty.of_below HB1.out, rfl, rfl, HDT.out, Nat.le_refl _⟩
  case round =>
    clear h1
    obtain ⟨k, hk, rfl, ho, y, hP, hT, hE, hF, hth, hops⟩ := hrel
    by_cases hlt : k < D.length
    · have hdr : D.drop k = D[k] :: D.drop (k + 1) := List.drop_eq_getElem_cons hlt
      obtain ⟨n, hn⟩ : ∃ n, n = D[k] := ⟨_, rfl⟩
      rw [← hn] at hdr
      rw [hdr] at hE hF hth
      have hthn := hth n (by simp)
      have hthr : ∀ j ∈ D.drop (k + 1), j < np ∧ (P.at? y.l j).isSome = true := fun j hj => hth j (by simp [hj])
      obtain ⟨gd, cd, hvd, -, -, hrd, -⟩ := OV.pos ho (by omega)
      cases hvd
      have hri : RI wr (some ⟨gd, 0, none⟩) D.length (D.map Int.ofNat) := hrd
      have cn : wr.cell? ⟨gd, k, none⟩ = some (.int .i64 (n : Int)) := by
        obtain ⟨p, e, hp⟩ := hri.at k (by simpa using hlt)
        cases e
        rw [Addr.add_lit, Nat.zero_add] at hp
        rw [hp]
        simp [← hn]
      obtain ⟨K, hK⟩ : ∃ K, K = D.length := ⟨_, rfl⟩
      have i0 : (0 : Int) ≤ (k : Int) := by omega
      have i1 : (k : Int) < (K : Int) := by omega
      have HFD := Lib.hid (rfindx hP (n : Int) (by unfold inI; have := HNP.out; omega))
      have HP := Lib.hid hP
      have HW := Lib.hid (And.intro hT (And.intro hE (And.intro hF (And.intro hthr hops))))
      have HOO := Lib.hid ho
      have HTN := Lib.hid hthn
      have HCN := Lib.hid (And.intro cn (lt_of_cell cn))
      rw [← hK] at hlen5
      have HK := Lib.hid hK
      rw [← hK]
      clear hP hT hE hF hth hops hdr hn hthn hthr hrd hri ho hk hlt hK
      go_wp2_with fail
      refine HFD.out.mono ?_
      rintro e w2 ⟨hb2, ⟨rfl, hno⟩ | ⟨i, hi, rfl, hni, hat⟩⟩
      · have h3 := hno (by omega)
        rw [Int.toNat_natCast] at h3
        have h4 := HTN.out.2
        rw [h3] at h4
        cases h4
      rw [Int.toNat_natCast] at hat
      have HB2 := Lib.hid hb2
      have h2 := HP.out.below hb2
      obtain ⟨hD2, ⟨L, vl, hL, hx⟩, hok, hNN⟩ := h2
      obtain ⟨hiL, hfi⟩ := get_fst hx i hi
      obtain ⟨g, cp, a, l, c, hvl, g2, hqg, hae, hrb, c0, c1', c2, c3⟩ := hL.cellsAt i hiL
      subst hvl
      have hokf := hok.2.1 _ (List.getElem_mem hi)
      obtain ⟨f, hf⟩ : ∃ f, f = y.l[i] := ⟨_, rfl⟩
      have hLi : L[i] = (f, .slice a l c) := by rw [← hae, hf, hfi]
      rw [hLi] at hrb c2
      rw [← hf] at hokf hat
      have hmap := P.map_set y.l i hi (fun f => { f with dirty := false }) hok.1
      rw [← hf] at hmap
      have hpg : n = f.pg := by rw [hf]; omega
      have cn2 := (hb2.cell (p := ⟨gd, k, none⟩) HCN.out.2).trans HCN.out.1
      have g0 : w2.cell? ⟨q, 0, none⟩ = some (.pointer (some ⟨m, 0, none⟩)) := cell_blk hL.pool 0
      have hdrew : Below w2.heap.size w2 w2.drew := (Below.refl _ w2).drew
      have HWR := Lib.hid (rwr_in (hD2.below hdrew) n (by rw [hpg]; exact hokf.1) HNP.out a l c f.b (hrb.below hdrew) hokf.2 (by have := HW.out.2.2.2.2; have := HOP.out; have := HK.out; omega))
      have HL2 := Lib.hid hL
      have hset := fun (W : World) (hW : RfL B W q m N L (.slice (some ⟨g, 0, none⟩) L.length cp)) (hrbW : RB W a l f.b) => hW.set (k := i) (f := 2) (p' := ({ f with dirty := false }, .slice a l c)) (v := .bool false) hiL (by omega) (by rw [hLi]; simp [rfC]) ⟨a, l, c, rfl, hrbW⟩
      have hcell := fun (W : World) (hW : RfL B W q m N L (.slice (some ⟨g, 0, none⟩) L.length cp)) => (show W.cell? ⟨q, 2, none⟩ = some (.slice (some ⟨g, 0, none⟩) L.length cp) ∧ W.cell? ⟨g, i * 4 + 2, none⟩ = some (.bool f.dirty) from by
        obtain ⟨g', cp', a', l', c', hvl', g2', hqg', hae', hrb', c0', c1'', c2', c3'⟩ := hW.cellsAt i hiL
        cases hvl'
        rw [hLi] at c2'
        exact ⟨g2', c2'⟩)
      obtain ⟨M, hM⟩ : ∃ M, M = L.length := ⟨_, rfl⟩
      rw [← hM] at g2 hcell
      have j1 : (i : Int) < (M : Int) := by omega
      have j0 : (0 : Int) ≤ (i : Int) := by omega
      have HSET := Lib.hid hset
      have HCELL := Lib.hid hcell
      have HRB2 := Lib.hid (hrb.below hdrew)
      have HDR := Lib.hid hdrew
      have HX := Lib.hid (And.intro hx (And.intro hok (And.intro hNN (And.intro hat (And.intro hmap (And.intro hpg (HW.out)))))))
      have HMM := Lib.hid hM
      have hWE := wrE_cases y.d
      obtain ⟨E, hE⟩ : ∃ E, E = y.d.wrE := ⟨_, rfl⟩
      rw [← hE] at hWE
      have HE := Lib.hid hE
      have HWR2 := Lib.hid HWR.out
      rw [← hE] at HWR2
      clear hb2 hx hok hNN hL hat hfi hae hrb hf hLi hmap hpg hdrew hset hcell hM hE hokf c0 c1' c2 hD2 hni hi hiL cn
      have nq1 : q ≠ g := hqg
      have nq2 : ¬ g = q := fun e => hqg e.symm
      clear hqg
      go_wp2
      go_still_tail 16, (by kernel_rfl)
      change wpList _ _ _ _ _ w2.drew
      go_wp2_with fail
      refine HWR2.out.mono ?_
      rintro e w3 ⟨rfl, hd3, ht3⟩
      have HD3 := Lib.hid hd3
      have HT3 := Lib.hid ((Ty.of_below (B := B) (T := rfT) (HDR.out.mono (Nat.le_refl _))).trans ht3)
      have hL3 := HL2.out.devd HT3.out
      have HL3 := Lib.hid hL3
      have hrb3 := HRB2.out.ty ht3 (by unfold rfT; decide)
      have HRB3 := Lib.hid hrb3
      have HTA := Lib.hid ((HX.out.2.2.2.2.2.2.1.trans (Ty.of_below HB2.out)).trans (rf_rp HT3.out))
      clear hd3 ht3 hL3 hrb3 cn2 g0 g2 c3
      rcases hWE with rfl | rfl
      rotate_left
      · have HF := Lib.hid (show Ending.returned (.int .i64 7) = .returned (.int .i64 (P.flushE D x)) ∧ RfV B q m np N (P.flushP D x) w w3 from by
          rw [← HX.out.2.2.2.2.2.2.2.1, ← HX.out.2.2.2.2.2.2.2.2.1]
          have hne : ¬ y.d.wrE = 0 := by rw [← HE.out]; omega
          show _ = Ending.returned (.int .i64 (if y.d.wrE = 0 then _ else y.d.wrE)) ∧ RfV B q m np N (if y.d.wrE = 0 then _ else P.clean1 y n) w w3
          rw [if_neg hne, if_neg hne, ← HE.out]
          have hcl : P.clean1 y n = ⟨y.d.wrD n f.b, y.l⟩ := by unfold P.clean1; rw [HX.out.2.2.2.1]; simp only [if_neg hne]
          have hokc := P.clean_ok HX.out.2.1 n HTN.out.1
          refine ⟨rfl, ?_⟩
          rw [hcl] at hokc ⊢
          exact ⟨⟨HD3.out, ⟨L, _, HL3.out, HX.out.1⟩, hokc, HX.out.2.2.1⟩, HTA.out⟩)
        go_wp2
        go_ret
        exact HF.out
      · have hs := HSET.out w3 HL3.out HRB3.out
        have fz := hs.1
        obtain ⟨q2, q3⟩ := HCELL.out w3 (by have h9 := HL3.out; rw [← HMM.out] at h9; exact h9)
        have HS := Lib.hid hs
        clear hs
        go_wp2
        refine ⟨⟨k + 1, by have := HK.out; omega, by go_num, ?_, P.clean1 y n, ?_, ?_, ?_, ?_, ?_, ?_⟩, by simp [intOf]; omega⟩
        · rw [HK.out]
          exact ((HOO.out.below HB2.out).ty HT3.out (fun _ _ => .inr (by unfold rfT; decide))).ty HS.out.2.2 (fun _ _ => .inr (by decide))
        · have h0 : y.d.wrE = 0 := HE.out.symm
          have hcl : P.clean1 y n = ⟨y.d.wrD n f.b, (L.set i ({ f with dirty := false }, .slice a l c)).map Prod.fst⟩ := by
            unfold P.clean1
            rw [HX.out.2.2.2.1]
            simp only [if_pos h0]
            rw [HX.out.2.2.2.2.2.1, HX.out.2.2.2.2.1, List.map_set, HX.out.1]
          have hokc := P.clean_ok HX.out.2.1 n HTN.out.1
          rw [hcl] at hokc ⊢
          exact ⟨HD3.out.pl HS.out.2.2, ⟨_, _, HS.out.2.1, rfl⟩, hokc, HX.out.2.2.1⟩
        · exact HTA.out.trans (pl_rp HS.out.2.2)
        · have h1 := HX.out.2.2.2.2.2.2.2.1
          rw [show P.flushE (n :: D.drop (k + 1)) y = if y.d.wrE = 0 then P.flushE (D.drop (k + 1)) (P.clean1 y n) else y.d.wrE from rfl, if_pos HE.out.symm] at h1
          exact h1
        · have h1 := HX.out.2.2.2.2.2.2.2.2.1
          rw [show P.flushP (n :: D.drop (k + 1)) y = if y.d.wrE = 0 then P.flushP (D.drop (k + 1)) (P.clean1 y n) else P.clean1 y n from rfl, if_pos HE.out.symm] at h1
          exact h1
        · intro j hj
          have h1 := HX.out.2.2.2.2.2.2.2.2.2.1 j hj
          exact ⟨h1.1, clean_there y n j h1.2⟩
        · have h1 := P.clean1_ops y n
          have h2 := HX.out.2.2.2.2.2.2.2.2.2.2
          omega
    · obtain rfl : k = D.length := by omega
      have HF := Lib.hid (show Ending.returned (.int .i64 0) = .returned (.int .i64 (P.flushE D x)) ∧ RfV B q m np N (P.flushP D x) w wr from by
        rw [List.drop_length] at hE hF
        rw [← hE, ← hF]
        exact ⟨rfl, hP, hT⟩)
      clear ho hP hT hE hF hth hops
      go_wp2
      go_ret
      exact HF.out
set_option maxRecDepth 100000 in
set_option maxHeartbeats 3200000 in
theorem revict_any (h : RfP B w q m np N x) (n : Int) (hn : n ≤ 1000000000) (hop : x.d.ops < 990000) : Calls Tryz.prog 23 #[.pointer (some ⟨q, 0, none⟩), .int .i64 n] w fun e w' => e = .returned (.int .i64 (P.evE n.toNat x)) ∧ RfV B q m np N (P.evP n.toNat x) w w' := by
  have HLEN := Lib.hid h.len
  have h0 := h
  have HOP := Lib.hid hop
  clear h hop
  go_enter Tryz.func23, Tryz.ntmps23
  go_wp2
  go_loopw [5] (fun s5 wr => ∃ k : Nat, s5 = .int .i64 k ∧ (k : Int) ≤ 1000000000 ∧ k ≤ n.toNat ∧ ∃ y : P.Po, RfP B wr q m np N y ∧ Ty B rpT w wr ∧ P.evE (n.toNat - k) y = P.evE n.toNat x ∧ P.evP (n.toNat - k) y = P.evP n.toNat x ∧ y.d.ops + y.l.length ≤ x.d.ops + x.l.length) (fun s5 _ => n.toNat - (intOf s5).toNat)
  case atStart => exact ⟨0, rfl, by decide, Nat.zero_le _, x, h0, Ty.refl _ _ _, rfl, rfl, Nat.le_refl _⟩
  case round =>
    clear h0
    obtain ⟨k, rfl, hk, hkn, y, hP, hT, hE, hF, hops⟩ := hrel
    by_cases hlt : (k : Int) < n
    · have hsub : n.toNat - k = (n.toNat - (k + 1)) + 1 := by omega
      rw [hsub] at hE hF
      have hE' : P.evE (n.toNat - (k + 1) + 1) y = if y.oneE = 0 then P.evE (n.toNat - (k + 1)) y.oneP else if y.oneE = 6 then 0 else y.oneE := rfl
      have hF' : P.evP (n.toNat - (k + 1) + 1) y = if y.oneE = 0 then P.evP (n.toNat - (k + 1)) y.oneP else y.oneP := rfl
      rw [hE'] at hE
      rw [hF'] at hF
      have HO := Lib.hid (rone_any hP (by have := HOP.out; have := HLEN.out; omega))
      have HW := Lib.hid (And.intro hP (And.intro hT (And.intro hE (And.intro hF hops))))
      clear hP hT hE hF hops hE' hF' hsub
      go_wp2_with fail
      refine HO.out.mono ?_
      rintro e w1 (⟨h1, rfl, hb⟩ | ⟨h1, rfl, hV⟩)
      · have HF := Lib.hid (show Ending.returned (.int .i64 0) = .returned (.int .i64 (P.evE n.toNat x)) ∧ RfV B q m np N (P.evP n.toNat x) w w1 from by
          rw [← HW.out.2.2.1, ← HW.out.2.2.2.1, if_neg (by omega), if_pos h1, if_neg (by omega), one6 y h1]
          exact ⟨rfl, HW.out.1.below hb, HW.out.2.1.trans (Ty.of_below hb)⟩)
        clear h1 hb
        go_wp2
        go_ret
        exact HF.out
      · have HV := Lib.hid hV
        obtain ⟨E, hE⟩ : ∃ E, E = y.oneE := ⟨_, rfl⟩
        have hc := oneE_cases y
        rw [← hE] at hc h1 ⊢
        have HE := Lib.hid hE
        clear hV hE
        rcases hc with rfl | rfl | rfl
        · have HR := Lib.hid (P.one_room HW.out.1.2.2.1 HE.out.symm)
          have HOO := Lib.hid (P.one_ops y)
          go_wp2
          refine ⟨⟨k + 1, by go_num, by omega, by omega, y.oneP, HV.out.1, HW.out.2.1.trans HV.out.2, ?_, ?_, ?_⟩, by simp [intOf]; omega⟩
          · rw [← HW.out.2.2.1, if_pos HE.out.symm]
          · rw [← HW.out.2.2.2.1, if_pos HE.out.symm]
          · have h2 := HW.out.2.2.2.2
            have h3 := HR.out
            have h4 := HOO.out
            omega
        · exact absurd rfl h1
        · have HF := Lib.hid (show Ending.returned (.int .i64 7) = .returned (.int .i64 (P.evE n.toNat x)) ∧ RfV B q m np N (P.evP n.toNat x) w w1 from by
            have h2 := HE.out
            rw [← HW.out.2.2.1, ← HW.out.2.2.2.1, if_neg (by omega), if_neg (by omega), if_neg (by omega), ← h2]
            exact ⟨rfl, HV.out.1, HW.out.2.1.trans HV.out.2⟩)
          clear h1
          go_wp2
          go_ret
          exact HF.out
    · have hz : n.toNat - k = 0 := by omega
      rw [hz] at hE hF
      have HF := Lib.hid (show Ending.returned (.int .i64 0) = .returned (.int .i64 (P.evE n.toNat x)) ∧ RfV B q m np N (P.evP n.toNat x) w wr from by
        rw [← hE, ← hF]
        exact ⟨rfl, hP, hT⟩)
      clear hP hT hE hF hops hz
      go_wp2
      go_ret
      exact HF.out
/-- How NewPool ends. -/
def NpR (B m np : Nat) (x : P.Po) (N : Int) (w : World) (e : Ending) (w' : World) : Prop :=
  (¬ (8 ≤ N ∧ N ≤ 4096) ∧ e = .returned (.tuple #[.pointer none, .int .i64 1]) ∧ Below w.heap.size w w') ∨ ((8 ≤ N ∧ N ≤ 4096) ∧ ∃ q, e = .returned (.tuple #[.pointer (some ⟨q, 0, none⟩), .int .i64 0]) ∧ RfP B w' q m np N.toNat x ∧ Below w.heap.size w w')
theorem rnewpool_any (h : RfD B w m np x.d) (hl : x.l = []) (himg : x.d.img.length = 256 * np) (N : Int) (hN : inI N) (hBw : B ≤ w.heap.size) : Calls Tryz.prog 9 #[.pointer (some ⟨m, 0, none⟩), .int .i64 N] w (NpR B m np x N w) := by
  have H := Lib.hid (And.intro h (And.intro hl (And.intro himg hBw)))
  have HN := Lib.hid hN
  clear h hl himg hN hBw
  by_cases h8 : 8 ≤ N
  rotate_left
  · have g8 : N < 8 := by omega
    have HF := Lib.hid (show ¬ (8 ≤ N ∧ N ≤ 4096) by omega)
    clear h8
    go_enter Tryz.func9, Tryz.ntmps9
    go_wp2
    go_ret2
    exact .inl ⟨HF.out, rfl, Below.refl _ _⟩
  by_cases h4 : N ≤ 4096
  rotate_left
  · have g4 : 4096 < N := by omega
    have g8 : ¬ N < 8 := by omega
    have HF := Lib.hid (show ¬ (8 ≤ N ∧ N ≤ 4096) by omega)
    clear h8 h4
    go_enter Tryz.func9, Tryz.ntmps9
    go_wp2
    go_ret2
    exact .inl ⟨HF.out, rfl, Below.refl _ _⟩
  obtain ⟨K, rfl⟩ : ∃ K : Nat, N = (K : Int) := ⟨N.toNat, by omega⟩
  have HR := Lib.hid (And.intro h8 h4)
  go_enter Tryz.func9, Tryz.ntmps9
  go_wp2
  go_ret2
  generalize hw1 : w.alloc _ = w1
  have hb : Below w.heap.size w w1 := by rw [← hw1]; exact (Below.refl _ w).alloc (Nat.le_refl _) _
  refine .inr ⟨HR.out, w.heap.size, rfl, ⟨H.out.1.below hb, ⟨[], .slice none 0 0, ⟨by rw [← hw1]; exact alloc_new _ _ _ rfl, H.out.2.2.2, OV.nil _ _ _ _, fun p hp => by simp at hp⟩, by rw [H.out.2.1]; rfl⟩, ?_, by have := HR.out; omega⟩, hb⟩
  have hl := H.out.2.1
  refine ⟨by rw [hl]; simp, by rw [hl]; intro f hf; simp at hf, by rw [hl]; simp, H.out.2.2.1⟩
end Go.Proofs.YtocepcibcapfbaaGreat
