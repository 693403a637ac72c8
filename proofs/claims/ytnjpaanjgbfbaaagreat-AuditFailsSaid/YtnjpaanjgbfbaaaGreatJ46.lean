/- The walk of chapter 8: the reference's Leaf. Printed by gen_cle.py. -/
import Derived.Test.YtnjpaanjgbfbaaaGreatJ12
namespace Go.Proofs.YtnjpaanjgbfbaaaGreat
set_option linter.unusedVariables false
set_option linter.unusedSimpArgs false
open Go.RowKit

set_option maxRecDepth 100000 in
set_option maxHeartbeats 3200000 in
theorem rleaf_fun (a : Option Addr) (n ca : Nat) (l : List P.Q) (w : World) (ha : RQ w a n l) :
    Calls Tryz.prog 36 #[.slice a n ca] w fun e w' => ∃ v, e = .returned (.tuple #[v, .int .i64 (P.leafErr l)]) ∧ OB w' w.heap.size v (P.leafB l) ∧ Below w.heap.size w w' := by
  have hln := ha.len
  have HA := Lib.hid ha
  by_cases hlen : 1 ≤ n ∧ n ≤ 20
  case neg =>
    have e1 : P.leafErr l = 1 := by unfold P.leafErr; rw [if_neg (by omega)]
    have e2 : P.leafB l = [] := by unfold P.leafB; rw [if_neg (by omega)]
    rw [e1, e2]
    clear ha e1 e2
    go_enter Tryz.func36, Tryz.ntmps36
    go_wp2
    all_goals
      first
        | (exfalso; omega)
        | (go_ret2; exact ⟨_, rfl, OB.nil _ _, Below.refl _ _⟩)
  case pos =>
    obtain ⟨hl1, hl2⟩ := hlen
    have hbad : ∀ j (hj : j < l.length), l[j].mayP = false → P.leafErr l = 1 ∧ P.leafB l = [] := by
      intro j hj hm
      have e1 : P.leafErr l = 1 := by
        unfold P.leafErr
        rw [if_neg]
        rintro ⟨-, -, h⟩
        rw [List.all_eq_true] at h
        rw [h _ (List.getElem_mem hj)] at hm
        cases hm
      exact ⟨e1, by unfold P.leafB; rw [if_neg (by omega)]⟩
    have hgood : (∀ j (hj : j < l.length), l[j].mayP = true) → P.leafErr l = 0 ∧ P.leafB l = P.sealB 3 0 n (P.encAll P.Q.encP l) ∧ P.sealErr 3 0 n (P.encAll P.Q.encP l).length = 0 := by
      intro h
      have e1 : P.leafErr l = 0 := by
        unfold P.leafErr
        rw [if_pos]
        refine ⟨by omega, by omega, ?_⟩
        rw [List.all_eq_true]
        intro x hx
        obtain ⟨j, hj, rfl⟩ := List.getElem_of_mem hx
        exact h j hj
      have e2 := P.seal_leaf l e1
      rw [hln] at e2
      refine ⟨e1, ?_, e2⟩
      unfold P.leafB P.sealB
      rw [if_pos e1, if_pos e2, hln]
      simp
    have HBAD := Lib.hid hbad
    have HGOOD := Lib.hid hgood
    have HTL := Lib.hid (fun j (hj : j < l.length) => show P.encAll P.Q.encP (l.take (j + 1)) = P.encAll P.Q.encP (l.take j) ++ l[j].encP by rw [List.take_succ_eq_append_getElem hj, P.encAll_snoc])
    have HLN := Lib.hid (fun j => P.encAll_length P.Q.encP 12 P.Q.encP_length (l.take j))
    obtain ⟨E, hE⟩ : ∃ E, E = P.leafErr l := ⟨_, rfl⟩
    obtain ⟨K, hK⟩ : ∃ K, K = P.leafB l := ⟨_, rfl⟩
    rw [← hE, ← hK] at HBAD HGOOD ⊢
    clear ha hbad hgood hE hK
    go_enter Tryz.func36, Tryz.ntmps36
    go_wp2
    go_loopw [4, 5] (fun v i wr => ∃ j : Nat, j ≤ n ∧ i = .int .i64 j ∧ (∃ a n c, v = .slice a n c) ∧ OB wr w.heap.size v (P.encAll P.Q.encP (l.take j)) ∧ (∀ k (hk : k < l.length), k < j → l[k].mayP = true) ∧ Below w.heap.size w wr) (fun v i _ => n - (intOf i).toNat)
    case atStart => exact ⟨0, by omega, rfl, ⟨_, _, _, rfl⟩, by simpa [P.encAll] using OB.nil _ _, fun k _ h => by omega, Below.refl _ _⟩
    case round =>
      obtain ⟨j, hj, rfl, ⟨av, nv, cv, rfl⟩, ho, hpre, hb0⟩ := hrel
      have HPRE := Lib.hid hpre
      have HO0 := Lib.hid ho
      clear ho hpre
      by_cases hlt : j < n
      · obtain ⟨p, rfl, -⟩ := (HA.out.below hb0).at j (by omega)
        have hpp : ∀ w', Below w.heap.size w w' → w'.cell? (p.add (j * 4)) = some (.int .i64 l[j].a) ∧ w'.cell? ⟨(p.add (j * 4)).block, (p.add (j * 4)).off + 1, none⟩ = some (.int .i64 l[j].b) ∧ w'.cell? ⟨(p.add (j * 4)).block, (p.add (j * 4)).off + 2, none⟩ = some (.int .i64 l[j].c) ∧ w'.cell? ⟨(p.add (j * 4)).block, (p.add (j * 4)).off + 3, none⟩ = some (.int .i64 l[j].d) := fun w' hb => by
          obtain ⟨q, e, h⟩ := (HA.out.below hb).at j (by omega)
          cases e
          exact h
        have hm := fun w => rmayP_any l[j] w
        have hbd := HBAD.out j (by omega)
        have htl := HTL.out j (by omega)
        have hll := HLN.out j
        have hpj := fun (k : Nat) (hk : k < l.length) (hkj : k < j + 1) (h : l[j].mayP = true) => show l[k].mayP = true by
          rcases Nat.lt_or_ge k j with h0 | h0
          · exact HPRE.out k hk h0
          · obtain rfl : k = j := by omega
            exact h
        generalize hQ : l[j] = Q at *
        obtain ⟨A, B, C, D⟩ := Q
        unfold qV at hm
        simp only at hm hpp
        have HM := Lib.hid hm
        have HBD := Lib.hid hbd
        have HTJ := Lib.hid htl
        have HPJ := Lib.hid hpj
        have HQ := Lib.hid hQ
        have HPP := Lib.hid hpp
        rw [show (l.take j).length = j by simp; omega] at hll
        clear hm hbd htl hpj hQ hpp
        obtain ⟨hp0, hp1, hp2, hp3⟩ := HPP.out _ hb0
        rcases hmay : P.Q.mayP ⟨A, B, C, D⟩ with _ | _
        case false =>
          obtain ⟨z1, z2⟩ := HBD.out hmay
          rw [hmay] at HM
          go_wp2_with fail
          refine (HM.out _).mono ?_
          rintro e wg ⟨rfl, hbg⟩
          have hbb := below_then hb0 hbg hb0.size
          go_wp2
          go_ret2
          exact ⟨_, by rw [z1]; rfl, by rw [z2]; exact OB.nil _ _, hbb⟩
        case true =>
          have hmi := (P.Q.mayP_iff ⟨A, B, C, D⟩).1 hmay
          simp only at hmi
          rw [hmay] at HM
          go_wp2_with fail
          refine (HM.out _).mono ?_
          rintro e wg ⟨rfl, hbg⟩
          have hbb := below_then hb0 hbg hb0.size
          clear hp0 hp1 hp2 hp3
          obtain ⟨hp0, hp1, hp2, hp3⟩ := HPP.out _ hbb
          have hob := HO0.out.below hbg
          obtain ⟨L0, hL0⟩ : ∃ L, L = P.encAll P.Q.encP (l.take j) := ⟨_, rfl⟩
          rw [← hL0] at hob hll
          have HL0 := Lib.hid hL0
          have HN0 := Lib.hid hll
          have HOB0 := Lib.hid hob
          clear hL0 hob hll
          go_wp2_with fail
          refine (refput_any 4 A _ (by omega) (by omega) (by omega) (by omega) (by simp; omega)).mono ?_
          rintro e wa1 ⟨va1, rfl, hoa1, hba1⟩
          obtain ⟨aa1, pa1, hva1, hra1, -, -, -⟩ := hoa1.form
          rw [P.be_length] at hva1 hra1
          subst hva1
          have HRA1 := Lib.hid hra1
          have hst1 : w.heap.size ≤ wa1.heap.size := by have := hbb.size; have := hba1.size; omega
          have hbo1 := HOB0.out.below hba1
          clear hoa1 hra1 hp0 hp1 hp2 hp3
          go_wp2_with (at_builtin; refine wpList_app _ rfl _ _ rfl w.heap.size _ _ rfl hbo1 _ _ _ _ rfl HRA1.out ?c1 hst1 ?_)
          case c1 => have := HN0.out; simp; omega
          intro v1 w1 hown1 hg1 hat1
          have hb1 : Below w.heap.size w w1 := hbo1.grown (below_then hbb hba1 hbb.size) hst1 hg1
          obtain ⟨L1, hL1⟩ : ∃ L, L = L0 ++ P.be 4 (A).toNat := ⟨_, rfl⟩
          rw [← hL1] at hown1
          have HN1 : Hid (L1.length = 12 * j + 4) := Lib.hid (by rw [hL1, List.length_append, P.be_length, HN0.out])
          obtain ⟨a1, c1, hv1, -, -, -, -⟩ := hown1.form
          subst hv1
          have HOB1 := Lib.hid hown1
          have HL1 := Lib.hid hL1
          obtain ⟨hp0, hp1, hp2, hp3⟩ := HPP.out _ hb1
          clear hown1 hg1 hat1 hL1 hbo1 hba1
          go_wp2_with fail
          refine (refput_any 2 B _ (by omega) (by omega) (by omega) (by omega) (by simp; omega)).mono ?_
          rintro e wa2 ⟨va2, rfl, hoa2, hba2⟩
          obtain ⟨aa2, pa2, hva2, hra2, -, -, -⟩ := hoa2.form
          rw [P.be_length] at hva2 hra2
          subst hva2
          have HRA2 := Lib.hid hra2
          have hst2 : w.heap.size ≤ wa2.heap.size := by have := hb1.size; have := hba2.size; omega
          have hbo2 := HOB1.out.below hba2
          clear hoa2 hra2 hp0 hp1 hp2 hp3
          go_wp2_with (at_builtin; refine wpList_app _ rfl _ _ rfl w.heap.size _ _ rfl hbo2 _ _ _ _ rfl HRA2.out ?c1 hst2 ?_)
          case c1 => have := HN1.out; simp; omega
          intro v2 w2 hown2 hg2 hat2
          have hb2 : Below w.heap.size w w2 := hbo2.grown (below_then hb1 hba2 hb1.size) hst2 hg2
          obtain ⟨L2, hL2⟩ : ∃ L, L = L1 ++ P.be 2 (B).toNat := ⟨_, rfl⟩
          rw [← hL2] at hown2
          have HN2 : Hid (L2.length = 12 * j + 6) := Lib.hid (by rw [hL2, List.length_append, P.be_length, HN1.out])
          obtain ⟨a2, c2, hv2, -, -, -, -⟩ := hown2.form
          subst hv2
          have HOB2 := Lib.hid hown2
          have HL2 := Lib.hid hL2
          obtain ⟨hp0, hp1, hp2, hp3⟩ := HPP.out _ hb2
          clear hown2 hg2 hat2 hL2 hbo2 hba2
          go_wp2_with fail
          refine (refput_any 2 C _ (by omega) (by omega) (by omega) (by omega) (by simp; omega)).mono ?_
          rintro e wa3 ⟨va3, rfl, hoa3, hba3⟩
          obtain ⟨aa3, pa3, hva3, hra3, -, -, -⟩ := hoa3.form
          rw [P.be_length] at hva3 hra3
          subst hva3
          have HRA3 := Lib.hid hra3
          have hst3 : w.heap.size ≤ wa3.heap.size := by have := hb2.size; have := hba3.size; omega
          have hbo3 := HOB2.out.below hba3
          clear hoa3 hra3 hp0 hp1 hp2 hp3
          go_wp2_with (at_builtin; refine wpList_app _ rfl _ _ rfl w.heap.size _ _ rfl hbo3 _ _ _ _ rfl HRA3.out ?c1 hst3 ?_)
          case c1 => have := HN2.out; simp; omega
          intro v3 w3 hown3 hg3 hat3
          have hb3 : Below w.heap.size w w3 := hbo3.grown (below_then hb2 hba3 hb2.size) hst3 hg3
          obtain ⟨L3, hL3⟩ : ∃ L, L = L2 ++ P.be 2 (C).toNat := ⟨_, rfl⟩
          rw [← hL3] at hown3
          have HN3 : Hid (L3.length = 12 * j + 8) := Lib.hid (by rw [hL3, List.length_append, P.be_length, HN2.out])
          obtain ⟨a3, c3, hv3, -, -, -, -⟩ := hown3.form
          subst hv3
          have HOB3 := Lib.hid hown3
          have HL3 := Lib.hid hL3
          obtain ⟨hp0, hp1, hp2, hp3⟩ := HPP.out _ hb3
          clear hown3 hg3 hat3 hL3 hbo3 hba3
          go_wp2_with fail
          refine (refput_any 2 D _ (by omega) (by omega) (by omega) (by omega) (by simp; omega)).mono ?_
          rintro e wa4 ⟨va4, rfl, hoa4, hba4⟩
          obtain ⟨aa4, pa4, hva4, hra4, -, -, -⟩ := hoa4.form
          rw [P.be_length] at hva4 hra4
          subst hva4
          have HRA4 := Lib.hid hra4
          have hst4 : w.heap.size ≤ wa4.heap.size := by have := hb3.size; have := hba4.size; omega
          have hbo4 := HOB3.out.below hba4
          clear hoa4 hra4 hp0 hp1 hp2 hp3
          go_wp2_with (at_builtin; refine wpList_app _ rfl _ _ rfl w.heap.size _ _ rfl hbo4 _ _ _ _ rfl HRA4.out ?c1 hst4 ?_)
          case c1 => have := HN3.out; simp; omega
          intro v4 w4 hown4 hg4 hat4
          have hb4 : Below w.heap.size w w4 := hbo4.grown (below_then hb3 hba4 hb3.size) hst4 hg4
          obtain ⟨L4, hL4⟩ : ∃ L, L = L3 ++ P.be 2 (D).toNat := ⟨_, rfl⟩
          rw [← hL4] at hown4
          have HN4 : Hid (L4.length = 12 * j + 10) := Lib.hid (by rw [hL4, List.length_append, P.be_length, HN3.out])
          obtain ⟨a4, c4, hv4, -, -, -, -⟩ := hown4.form
          subst hv4
          have HOB4 := Lib.hid hown4
          have HL4 := Lib.hid hL4
          obtain ⟨hp0, hp1, hp2, hp3⟩ := HPP.out _ hb4
          clear hown4 hg4 hat4 hL4 hbo4 hba4
          clear hp0 hp1 hp2 hp3
          have hzb : Below w4.heap.size w4 (w4.alloc (.cells #[.int .u8 0, .int .u8 0] 5)) := (Below.refl _ w4).alloc (Nat.le_refl _) _
          have hzr : Hid (Rd (w4.alloc (.cells #[.int .u8 0, .int .u8 0] 5)) (some ⟨w4.heap.size, 0, none⟩) 2 [0, 0]) := Lib.hid (Rd_lit w4 5 [0, 0] (by simp [maxLen]))
          have hst5 : w.heap.size ≤ (w4.alloc (.cells #[.int .u8 0, .int .u8 0] 5)).heap.size := by have := hb4.size; simp; omega
          have hbo5 := HOB4.out.below hzb
          go_wp2_with (at_builtin; refine wpList_app _ rfl _ _ rfl w.heap.size _ _ rfl hbo5 _ _ _ _ rfl hzr.out ?c1 hst5 ?_)
          case c1 => have := HN4.out; omega
          intro v5 w5 hown5 hg5 hat5
          have hb5 : Below w.heap.size w w5 := hbo5.grown (below_then hb4 hzb hb4.size) hst5 hg5
          rw [show L4 ++ [0, 0] = P.encAll P.Q.encP (l.take (j + 1)) by rw [HTJ.out, HL4.out, HL3.out, HL2.out, HL1.out, HL0.out]; simp [P.Q.encP]; rfl] at hown5
          obtain ⟨a5, c5, hv5, -, -, -, -⟩ := hown5.form
          subst hv5
          have HO9 := Lib.hid hown5
          have hb9 := hb5
          clear hown5 hg5 hat5
          go_wp2
          go_roundw
          case rel => exact ⟨j + 1, by omega, by first | go_num | (simp; done), ⟨_, _, _, rfl⟩, HO9.out, fun k hk hkj => HPJ.out k hk hkj (by rw [HQ.out]; exact hmay), hb9⟩
          case measure => simp [intOf]; omega
      · obtain rfl : j = n := by omega
        have hg := HGOOD.out (fun k hk => HPRE.out k hk (by omega))
        have ho := HO0.out
        rw [List.take_of_length_le (by omega)] at ho
        obtain ⟨a2, c2, hv2, hr2, -, -, -⟩ := ho.form
        cases hv2
        have HR2 := Lib.hid hr2
        have HG := Lib.hid hg
        clear hg ho hr2
        go_wp2_with fail
        refine (rseal_fun 3 0 j _ _ _ _ _ HR2.out).mono ?_
        rintro e wz ⟨vz, rfl, hownz, hbz⟩
        obtain ⟨az, pz, hvz, -, -, -, -⟩ := hownz.form
        subst hvz
        have HOZ := Lib.hid (hownz.mono (show w.heap.size ≤ _ from hb0.size))
        have hbz' := below_then hb0 hbz hb0.size
        clear hownz
        go_wp2
        go_ret2
        exact ⟨_, by rw [HG.out.1, HG.out.2.2]; rfl, by rw [HG.out.2.1]; exact HOZ.out, hbz'⟩
end Go.Proofs.YtnjpaanjgbfbaaaGreat
/- The walk of chapter 8: the reference's Inner. Printed by gen_cle.py. -/
namespace Go.Proofs.YtnjpaanjgbfbaaaGreat
set_option linter.unusedVariables false
set_option linter.unusedSimpArgs false
open Go.RowKit

set_option maxRecDepth 100000 in
set_option maxHeartbeats 3200000 in
theorem rinner_fun (lv : Int) (a : Option Addr) (n ca : Nat) (l : List P.Q) (w : World) (ha : RQ w a n l) :
    Calls Tryz.prog 37 #[.int .i64 lv, .slice a n ca] w fun e w' => ∃ v, e = .returned (.tuple #[v, .int .i64 (P.innErr lv l)]) ∧ OB w' w.heap.size v (P.innB lv l) ∧ Below w.heap.size w w' := by
  have hln := ha.len
  have HA := Lib.hid ha
  by_cases hlen : (1 ≤ lv ∧ lv ≤ 32) ∧ 1 ≤ n ∧ n ≤ 12
  case neg =>
    have e1 : P.innErr lv l = 1 := by unfold P.innErr; rw [if_neg (by omega)]
    have e2 : P.innB lv l = [] := by unfold P.innB; rw [if_neg (by omega)]
    rw [e1, e2]
    clear ha e1 e2
    go_enter Tryz.func37, Tryz.ntmps37
    go_wp2
    all_goals
      first
        | (exfalso; omega)
        | (go_ret2; exact ⟨_, rfl, OB.nil _ _, Below.refl _ _⟩)
  case pos =>
    obtain ⟨⟨hv1, hv2⟩, hl1, hl2⟩ := hlen
    have hbad : ∀ j (hj : j < l.length), l[j].mayK = false → P.innErr lv l = 1 ∧ P.innB lv l = [] := by
      intro j hj hm
      have e1 : P.innErr lv l = 1 := by
        unfold P.innErr
        rw [if_neg]
        rintro ⟨-, -, -, -, h⟩
        rw [List.all_eq_true] at h
        rw [h _ (List.getElem_mem hj)] at hm
        cases hm
      exact ⟨e1, by unfold P.innB; rw [if_neg (by omega)]⟩
    have hgood : (∀ j (hj : j < l.length), l[j].mayK = true) → P.innErr lv l = 0 ∧ P.innB lv l = P.sealB 2 lv n (P.encAll P.Q.encK l) ∧ P.sealErr 2 lv n (P.encAll P.Q.encK l).length = 0 := by
      intro h
      have e1 : P.innErr lv l = 0 := by
        unfold P.innErr
        rw [if_pos]
        refine ⟨by omega, by omega, by omega, by omega, ?_⟩
        rw [List.all_eq_true]
        intro x hx
        obtain ⟨j, hj, rfl⟩ := List.getElem_of_mem hx
        exact h j hj
      have e2 := P.seal_inn lv l e1
      rw [hln] at e2
      refine ⟨e1, ?_, e2⟩
      unfold P.innB P.sealB
      rw [if_pos e1, if_pos e2, hln]
      simp
    have HBAD := Lib.hid hbad
    have HGOOD := Lib.hid hgood
    have HTL := Lib.hid (fun j (hj : j < l.length) => show P.encAll P.Q.encK (l.take (j + 1)) = P.encAll P.Q.encK (l.take j) ++ l[j].encK by rw [List.take_succ_eq_append_getElem hj, P.encAll_snoc])
    have HLN := Lib.hid (fun j => P.encAll_length P.Q.encK 20 P.Q.encK_length (l.take j))
    obtain ⟨E, hE⟩ : ∃ E, E = P.innErr lv l := ⟨_, rfl⟩
    obtain ⟨K, hK⟩ : ∃ K, K = P.innB lv l := ⟨_, rfl⟩
    rw [← hE, ← hK] at HBAD HGOOD ⊢
    clear ha hbad hgood hE hK
    go_enter Tryz.func37, Tryz.ntmps37
    go_wp2
    go_loopw [6, 7] (fun v i wr => ∃ j : Nat, j ≤ n ∧ i = .int .i64 j ∧ (∃ a n c, v = .slice a n c) ∧ OB wr w.heap.size v (P.encAll P.Q.encK (l.take j)) ∧ (∀ k (hk : k < l.length), k < j → l[k].mayK = true) ∧ Below w.heap.size w wr) (fun v i _ => n - (intOf i).toNat)
    case atStart => exact ⟨0, by omega, rfl, ⟨_, _, _, rfl⟩, by simpa [P.encAll] using OB.nil _ _, fun k _ h => by omega, Below.refl _ _⟩
    case round =>
      obtain ⟨j, hj, rfl, ⟨av, nv, cv, rfl⟩, ho, hpre, hb0⟩ := hrel
      have HPRE := Lib.hid hpre
      have HO0 := Lib.hid ho
      clear ho hpre
      by_cases hlt : j < n
      · obtain ⟨p, rfl, -⟩ := (HA.out.below hb0).at j (by omega)
        have hpp : ∀ w', Below w.heap.size w w' → w'.cell? (p.add (j * 4)) = some (.int .i64 l[j].a) ∧ w'.cell? ⟨(p.add (j * 4)).block, (p.add (j * 4)).off + 1, none⟩ = some (.int .i64 l[j].b) ∧ w'.cell? ⟨(p.add (j * 4)).block, (p.add (j * 4)).off + 2, none⟩ = some (.int .i64 l[j].c) ∧ w'.cell? ⟨(p.add (j * 4)).block, (p.add (j * 4)).off + 3, none⟩ = some (.int .i64 l[j].d) := fun w' hb => by
          obtain ⟨q, e, h⟩ := (HA.out.below hb).at j (by omega)
          cases e
          exact h
        have hm := fun w => rmayK_any l[j] w
        have hbd := HBAD.out j (by omega)
        have htl := HTL.out j (by omega)
        have hll := HLN.out j
        have hpj := fun (k : Nat) (hk : k < l.length) (hkj : k < j + 1) (h : l[j].mayK = true) => show l[k].mayK = true by
          rcases Nat.lt_or_ge k j with h0 | h0
          · exact HPRE.out k hk h0
          · obtain rfl : k = j := by omega
            exact h
        generalize hQ : l[j] = Q at *
        obtain ⟨A, B, C, D⟩ := Q
        unfold qV at hm
        simp only at hm hpp
        have HM := Lib.hid hm
        have HBD := Lib.hid hbd
        have HTJ := Lib.hid htl
        have HPJ := Lib.hid hpj
        have HQ := Lib.hid hQ
        have HPP := Lib.hid hpp
        rw [show (l.take j).length = j by simp; omega] at hll
        clear hm hbd htl hpj hQ hpp
        obtain ⟨hp0, hp1, hp2, hp3⟩ := HPP.out _ hb0
        rcases hmay : P.Q.mayK ⟨A, B, C, D⟩ with _ | _
        case false =>
          obtain ⟨z1, z2⟩ := HBD.out hmay
          rw [hmay] at HM
          go_wp2_with fail
          refine (HM.out _).mono ?_
          rintro e wg ⟨rfl, hbg⟩
          have hbb := below_then hb0 hbg hb0.size
          go_wp2
          go_ret2
          exact ⟨_, by rw [z1]; rfl, by rw [z2]; exact OB.nil _ _, hbb⟩
        case true =>
          have hmi := (P.Q.mayK_iff ⟨A, B, C, D⟩).1 hmay
          simp only at hmi
          rw [hmay] at HM
          go_wp2_with fail
          refine (HM.out _).mono ?_
          rintro e wg ⟨rfl, hbg⟩
          have hbb := below_then hb0 hbg hb0.size
          clear hp0 hp1 hp2 hp3
          obtain ⟨hp0, hp1, hp2, hp3⟩ := HPP.out _ hbb
          have hob := HO0.out.below hbg
          obtain ⟨L0, hL0⟩ : ∃ L, L = P.encAll P.Q.encK (l.take j) := ⟨_, rfl⟩
          rw [← hL0] at hob hll
          have HL0 := Lib.hid hL0
          have HN0 := Lib.hid hll
          have HOB0 := Lib.hid hob
          clear hL0 hob hll
          go_wp2_with fail
          refine (refput_any 4 A _ (by omega) (by omega) (by omega) (by omega) (by simp; omega)).mono ?_
          rintro e wa1 ⟨va1, rfl, hoa1, hba1⟩
          obtain ⟨aa1, pa1, hva1, hra1, -, -, -⟩ := hoa1.form
          rw [P.be_length] at hva1 hra1
          subst hva1
          have HRA1 := Lib.hid hra1
          have hst1 : w.heap.size ≤ wa1.heap.size := by have := hbb.size; have := hba1.size; omega
          have hbo1 := HOB0.out.below hba1
          clear hoa1 hra1 hp0 hp1 hp2 hp3
          go_wp2_with (at_builtin; refine wpList_app _ rfl _ _ rfl w.heap.size _ _ rfl hbo1 _ _ _ _ rfl HRA1.out ?c1 hst1 ?_)
          case c1 => have := HN0.out; simp; omega
          intro v1 w1 hown1 hg1 hat1
          have hb1 : Below w.heap.size w w1 := hbo1.grown (below_then hbb hba1 hbb.size) hst1 hg1
          obtain ⟨L1, hL1⟩ : ∃ L, L = L0 ++ P.be 4 (A).toNat := ⟨_, rfl⟩
          rw [← hL1] at hown1
          have HN1 : Hid (L1.length = 20 * j + 4) := Lib.hid (by rw [hL1, List.length_append, P.be_length, HN0.out])
          obtain ⟨a1, c1, hv1, -, -, -, -⟩ := hown1.form
          subst hv1
          have HOB1 := Lib.hid hown1
          have HL1 := Lib.hid hL1
          obtain ⟨hp0, hp1, hp2, hp3⟩ := HPP.out _ hb1
          clear hown1 hg1 hat1 hL1 hbo1 hba1
          go_wp2_with fail
          refine (refput_any 4 B _ (by omega) (by omega) (by omega) (by omega) (by simp; omega)).mono ?_
          rintro e wa2 ⟨va2, rfl, hoa2, hba2⟩
          obtain ⟨aa2, pa2, hva2, hra2, -, -, -⟩ := hoa2.form
          rw [P.be_length] at hva2 hra2
          subst hva2
          have HRA2 := Lib.hid hra2
          have hst2 : w.heap.size ≤ wa2.heap.size := by have := hb1.size; have := hba2.size; omega
          have hbo2 := HOB1.out.below hba2
          clear hoa2 hra2 hp0 hp1 hp2 hp3
          go_wp2_with (at_builtin; refine wpList_app _ rfl _ _ rfl w.heap.size _ _ rfl hbo2 _ _ _ _ rfl HRA2.out ?c1 hst2 ?_)
          case c1 => have := HN1.out; simp; omega
          intro v2 w2 hown2 hg2 hat2
          have hb2 : Below w.heap.size w w2 := hbo2.grown (below_then hb1 hba2 hb1.size) hst2 hg2
          obtain ⟨L2, hL2⟩ : ∃ L, L = L1 ++ P.be 4 (B).toNat := ⟨_, rfl⟩
          rw [← hL2] at hown2
          have HN2 : Hid (L2.length = 20 * j + 8) := Lib.hid (by rw [hL2, List.length_append, P.be_length, HN1.out])
          obtain ⟨a2, c2, hv2, -, -, -, -⟩ := hown2.form
          subst hv2
          have HOB2 := Lib.hid hown2
          have HL2 := Lib.hid hL2
          obtain ⟨hp0, hp1, hp2, hp3⟩ := HPP.out _ hb2
          clear hown2 hg2 hat2 hL2 hbo2 hba2
          go_wp2_with fail
          refine (refput_any 8 C _ (by omega) (by omega) (by omega) (by omega) (by simp; omega)).mono ?_
          rintro e wa3 ⟨va3, rfl, hoa3, hba3⟩
          obtain ⟨aa3, pa3, hva3, hra3, -, -, -⟩ := hoa3.form
          rw [P.be_length] at hva3 hra3
          subst hva3
          have HRA3 := Lib.hid hra3
          have hst3 : w.heap.size ≤ wa3.heap.size := by have := hb2.size; have := hba3.size; omega
          have hbo3 := HOB2.out.below hba3
          clear hoa3 hra3 hp0 hp1 hp2 hp3
          go_wp2_with (at_builtin; refine wpList_app _ rfl _ _ rfl w.heap.size _ _ rfl hbo3 _ _ _ _ rfl HRA3.out ?c1 hst3 ?_)
          case c1 => have := HN2.out; simp; omega
          intro v3 w3 hown3 hg3 hat3
          have hb3 : Below w.heap.size w w3 := hbo3.grown (below_then hb2 hba3 hb2.size) hst3 hg3
          obtain ⟨L3, hL3⟩ : ∃ L, L = L2 ++ P.be 8 (C).toNat := ⟨_, rfl⟩
          rw [← hL3] at hown3
          have HN3 : Hid (L3.length = 20 * j + 16) := Lib.hid (by rw [hL3, List.length_append, P.be_length, HN2.out])
          obtain ⟨a3, c3, hv3, -, -, -, -⟩ := hown3.form
          subst hv3
          have HOB3 := Lib.hid hown3
          have HL3 := Lib.hid hL3
          obtain ⟨hp0, hp1, hp2, hp3⟩ := HPP.out _ hb3
          clear hown3 hg3 hat3 hL3 hbo3 hba3
          go_wp2_with fail
          refine (refput_any 4 D _ (by omega) (by omega) (by omega) (by omega) (by simp; omega)).mono ?_
          rintro e wa4 ⟨va4, rfl, hoa4, hba4⟩
          obtain ⟨aa4, pa4, hva4, hra4, -, -, -⟩ := hoa4.form
          rw [P.be_length] at hva4 hra4
          subst hva4
          have HRA4 := Lib.hid hra4
          have hst4 : w.heap.size ≤ wa4.heap.size := by have := hb3.size; have := hba4.size; omega
          have hbo4 := HOB3.out.below hba4
          clear hoa4 hra4 hp0 hp1 hp2 hp3
          go_wp2_with (at_builtin; refine wpList_app _ rfl _ _ rfl w.heap.size _ _ rfl hbo4 _ _ _ _ rfl HRA4.out ?c1 hst4 ?_)
          case c1 => have := HN3.out; simp; omega
          intro v4 w4 hown4 hg4 hat4
          have hb4 : Below w.heap.size w w4 := hbo4.grown (below_then hb3 hba4 hb3.size) hst4 hg4
          obtain ⟨L4, hL4⟩ : ∃ L, L = L3 ++ P.be 4 (D).toNat := ⟨_, rfl⟩
          rw [← hL4] at hown4
          have HN4 : Hid (L4.length = 20 * j + 20) := Lib.hid (by rw [hL4, List.length_append, P.be_length, HN3.out])
          obtain ⟨a4, c4, hv4, -, -, -, -⟩ := hown4.form
          subst hv4
          have HOB4 := Lib.hid hown4
          have HL4 := Lib.hid hL4
          obtain ⟨hp0, hp1, hp2, hp3⟩ := HPP.out _ hb4
          clear hown4 hg4 hat4 hL4 hbo4 hba4
          have HO9 : Hid (OB w4 w.heap.size (.slice a4 L4.length c4) (P.encAll P.Q.encK (l.take (j + 1)))) := by
            have h := HOB4.out
            rw [show P.encAll P.Q.encK (l.take (j + 1)) = L4 by rw [HTJ.out, HL4.out, HL3.out, HL2.out, HL1.out, HL0.out]; simp [P.Q.encK]]
            exact Lib.hid h
          have hb9 := hb4
          clear hp0 hp1 hp2 hp3
          go_wp2
          go_roundw
          case rel => exact ⟨j + 1, by omega, by first | go_num | (simp; done), ⟨_, _, _, rfl⟩, HO9.out, fun k hk hkj => HPJ.out k hk hkj (by rw [HQ.out]; exact hmay), hb9⟩
          case measure => simp [intOf]; omega
      · obtain rfl : j = n := by omega
        have hg := HGOOD.out (fun k hk => HPRE.out k hk (by omega))
        have ho := HO0.out
        rw [List.take_of_length_le (by omega)] at ho
        obtain ⟨a2, c2, hv2, hr2, -, -, -⟩ := ho.form
        cases hv2
        have HR2 := Lib.hid hr2
        have HG := Lib.hid hg
        clear hg ho hr2
        go_wp2_with fail
        refine (rseal_fun 2 lv j _ _ _ _ _ HR2.out).mono ?_
        rintro e wz ⟨vz, rfl, hownz, hbz⟩
        obtain ⟨az, pz, hvz, -, -, -, -⟩ := hownz.form
        subst hvz
        have HOZ := Lib.hid (hownz.mono (show w.heap.size ≤ _ from hb0.size))
        have hbz' := below_then hb0 hbz hb0.size
        clear hownz
        go_wp2
        go_ret2
        exact ⟨_, by rw [HG.out.1, HG.out.2.2]; rfl, by rw [HG.out.2.1]; exact HOZ.out, hbz'⟩
end Go.Proofs.YtnjpaanjgbfbaaaGreat
