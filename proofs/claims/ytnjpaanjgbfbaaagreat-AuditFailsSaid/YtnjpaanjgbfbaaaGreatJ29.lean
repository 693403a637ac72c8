/- The walker: piece, where something is wrong. -/
import Derived.Test.YtnjpaanjgbfbaaaGreatJ28
namespace Go.Proofs.YtnjpaanjgbfbaaaGreat
set_option linter.unusedVariables false
set_option linter.unusedSimpArgs false
open Go.RowKit

def EndX (C : AC) (S : Nat → Prop) (w : World) (e : Ending) (w' : World) : Prop := EndC C S w e w' ∨ EndI C S w e w'
set_option maxRecDepth 100000 in
set_option maxHeartbeats 3200000 in
theorem piece_no2 (C : AC) (Lo S : Nat → Prop) (st s1 : P.St) (vS : Value) (n b c l : Nat) (w : World) (h : Wk C Lo S w st (tkF st) vS) (hm : P.Q.mayP ⟨n, b, c, l⟩ = true) (hnp : n < C.np) (htx1 : P.txAt C.img C.np st n = some s1)
    (hno : ¬ (b + c ≤ (P.txL (P.pg C.img n)).length ∧ (P.nls (P.cutP C.img ⟨n, b, c, l⟩) : Int) = l)) :
    Calls Tryz.prog 99 #[.pointer (some ⟨C.q, 0, none⟩), .agg #[.int .i64 (n : Int), .int .i64 (b : Int), .int .i64 (c : Int), .int .i64 (l : Int)]] w (EndX C S w) := by
  have hmi := (P.Q.mayP_iff _).1 hm
  simp only at hmi
  have HNO := Lib.hid hno
  clear hno
  obtain ⟨w0, hw0⟩ : ∃ w0, w0 = (w.alloc (.cells #[.int .i64 (n : Int), .int .i64 (b : Int), .int .i64 (c : Int), .int .i64 (l : Int)] 59)).alloc (.cells #[.int .i64 0, .int .i64 0, .int .i64 0] 158) := ⟨_, rfl⟩
  have hb0 : Below w.heap.size w w0 := by rw [hw0]; exact (((Below.refl _ w).alloc (Nat.le_refl _) _).alloc (by simp) _)
  have k0 : w0.heap[w.heap.size]? = some (.cells #[.int .i64 (n : Int), .int .i64 (b : Int), .int .i64 (c : Int), .int .i64 (l : Int)] 59 (0, 0)) := by rw [hw0]; exact alloc_old (alloc_new _ _ _ rfl) _
  have k1 : w0.heap[w.heap.size + 1]? = some (.cells #[.int .i64 0, .int .i64 0, .int .i64 0] 158 (0, 0)) := by rw [hw0]; exact alloc_new _ _ _ (by simp)
  have hSt : S C.t := h.2.2.2.2.1.2.2.1
  have hqt : C.q ≠ C.t := h.qt
  have hpt : w.heap.size ≠ C.t := fun e => by have := h.sets _ hSt; omega
  have hpt1 : w.heap.size + 1 ≠ C.t := fun e => by have := h.sets _ hSt; omega
  have hnS : ∀ j, w.heap.size ≤ j → ¬ S j := fun j hj hs => by have := h.sets _ hs; omega
  have hB0 : Below w.heap.size w w0.drew := ⟨hb0.os, hb0.tape, hb0.output, hb0.size, hb0.block⟩
  obtain ⟨X, hX⟩ : ∃ X : Nat → Prop, X = fun j => j = w.heap.size ∨ j = w.heap.size + 1 := ⟨_, rfl⟩
  have hX2 : ∀ j, X j → w.heap.size ≤ j ∧ j < w0.heap.size := fun j hj => by
    rw [hX] at hj
    have hz : w0.heap.size = w.heap.size + 2 := by rw [hw0]; simp
    rcases hj with e | e <;> omega
  have hX1 : X (w.heap.size + 1) := by rw [hX]; exact .inr rfl
  have hlay := h.lay hb0 hX2
  have hD0 : Below w0.heap.size w0 w0.drew := ⟨rfl, rfl, rfl, Nat.le_refl _, fun _ _ => rfl⟩
  obtain ⟨v0, hlk, htx⟩ := hlay.textAt n (by omega) w0.drew hD0
  have H0 := Lib.hid hlay
  obtain ⟨vP, vT, hq⟩ := (h.below hb0).cells
  have hg := cell_blk hq
  have g0 := cell_blk k0
  unfold wkC at hg
  obtain ⟨okb, hokb⟩ : ∃ okb, okb = tkF st n := ⟨_, rfl⟩
  rw [← hokb] at hlk htx
  have HTX := Lib.hid htx
  have HOK := Lib.hid hokb.symm
  have HZ := Lib.hid (show w0.heap.size = w.heap.size + 2 by rw [hw0]; simp)
  have HT1 := Lib.hid htx1
  have HH := Lib.hid h
  clear h htx hm hq hokb htx1 hlay hX hX2
  go_enter Tryz.func99, Tryz.ntmps99
  go_wp2_with fail
  rw [← hw0]
  clear hw0
  go_region_held3 (fun w' => w'.cell? ⟨C.q, 23, none⟩ = some (.map (some C.t)) ∧ w'.cell? ⟨w.heap.size, 0, none⟩ = some (.int .i64 (n : Int)) ∧ (Instr.lookup 109 (.map (some C.t)) (.int .i64 (n : Int)) true).run Tryz.prog w' = .ok (.tuple #[v0, .bool okb]) w') (go_keep) (fail)
  go_upto_if 22 with (fail)
  have HD0 := Lib.hid (H0.out.below hD0)
  have K0 := Lib.hid k0
  have K1 := Lib.hid k1
  have hz0 : w0.heap.size = w.heap.size + 2 := HZ.out
  have HB0 := Lib.hid hB0
  clear k0 k1 hB0 hlk
  go_cut [5] from 12 (fun s5 wx => TxHand C (addL Lo X) S st s1 vS n w s5 wx ∧ Hid (wx.heap[w.heap.size]? = some (.cells #[.int .i64 (n : Int), .int .i64 (b : Int), .int .i64 (c : Int), .int .i64 (l : Int)] 59 (0, 0))) ∧ Hid (wx.heap[w.heap.size + 1]? = some (.cells #[.int .i64 0, .int .i64 0, .int .i64 0] 158 (0, 0))))
  case first =>
    rcases okb with _ | _
    · obtain ⟨hf, he, hs1⟩ := txAt_new HT1.out HOK.out
      subst hs1
      have HF := Lib.hid hf
      have HE0 := Lib.hid he
      clear hf he
      go_wp2_with fail
      refine (reach_ok C (addL Lo X) S st (tkF st) vS n 4 w0.drew HD0.out (by omega) (by omega) HF.out).mono ?_
      rintro e w2 h
      rcases h with ⟨v, rfl, ho, hk2, hs2⟩ | ⟨rfl, hend⟩
      · obtain ⟨a2, c2, rfl, hr2, hc2, ha2, -⟩ := ho.form
        have hpl := pg_length C.img C.np n H0.out.1.page hnp
        rw [hpl] at hr2 hc2 ⊢
        have HR2 := Lib.hid hr2
        have HK2 := Lib.hid hk2
        have HS2 := Lib.hid hs2
        clear ho hr2 hk2 hs2 ha2
        go_wp2_with fail
        refine (text_fun a2 256 c2 _ w2 HR2.out hc2).mono ?_
        rintro e w3 ⟨a3, n3, c3, rfl, hr3, hc3, ha3, hb3⟩
        rw [HE0.out]
        have hS03 : Stp S w S w3 := ((Stp.below HB0.out).trans HS2.out).trans (Stp.below hb3)
        have k03 : w3.heap[w.heap.size]? = _ := ((hb3.block _ (by have := HS2.out.1.size; simp at this; omega)).trans (HS2.out.1.block _ (by simp; omega) (hnS _ (by omega)))).trans K0.out
        have k13 : w3.heap[w.heap.size + 1]? = _ := ((hb3.block _ (by have := HS2.out.1.size; simp at this; omega)).trans (HS2.out.1.block _ (by simp; omega) (hnS _ (by omega)))).trans K1.out
        have hk3 := HK2.out.below hb3
        have hc3' : n3 ≤ c3 ∧ 0 < n3 := ⟨hc3, by have := txL_pos HE0.out; have := hr3.1; omega⟩
        have ha3' : ∀ p, a3 = some p → ¬ av (addL Lo X) S p.block ∧ p.block < w3.heap.size := fun p e => ⟨fun hs => by have := ha3 p e; have := HK2.out.2.2.2.1 _ hs; omega, hr3.lt (txL_pos HE0.out) p e⟩
        have hdr : Below w3.heap.size w3 w3.drew := ⟨rfl, rfl, rfl, Nat.le_refl _, fun _ _ => rfl⟩
        obtain ⟨w5, hrun, hc5, hk5⟩ := Wk.texted n (hk3.below hdr) HF.out (hr3.below hdr) hc3' ha3'
        obtain ⟨vP3, vT3, hq3⟩ := hk3.cells
        have hg3 := cell_blk hq3
        have g03 := cell_blk k03
        have HK5 := Lib.hid hk5
        have HC5 := Lib.hid hc5
        have HR3 := Lib.hid hr3
        have HA3 := Lib.hid ha3'
        have HS03 := Lib.hid hS03
        have K03 := Lib.hid k03
        have K13 := Lib.hid k13
        have HQ3 := Lib.hid hq3
        unfold wkC at hg3
        clear hr3 ha3 hk3 hk5 hc5 hq3 hS03 k03 k13 ha3' hg g0
        go_wp2_with (go_at_call 80; refine (right_t _).mono ?_; rintro e w4 ⟨rfl, rfl⟩)
        go_region_held3 (fun w' => w'.cell? ⟨C.q, 23, none⟩ = some (.map (some C.t)) ∧ w'.cell? ⟨w.heap.size, 0, none⟩ = some (.int .i64 (n : Int)))
          (first | go_keep | exact ⟨(World.cell?_of_block (w := w3) (a := ⟨C.q, 23, none⟩) (HC5.out.block _ (lt_of_block HQ3.out) hqt)).trans (cell_blk HQ3.out 23), (World.cell?_of_block (w := w3) (a := ⟨w.heap.size, 0, none⟩) (HC5.out.block _ (lt_of_block K03.out) hpt)).trans (cell_blk K03.out 0)⟩) (fail)
        go_wp2
        go_meet
        case rel => exact ⟨⟨a3, n3, c3, rfl, (HR3.out.below hdr).chg HC5.out (fun p e ht => (HA3.out p e).1 (.inl (ht ▸ hSt))), hc3', fun p e => ⟨(HA3.out p e).1, Nat.lt_of_lt_of_le (HA3.out p e).2 HC5.out.size⟩, HK5.out, (HS03.out.trans (Stp.below hdr)).trans (Stp.of HC5.out (fun j e => e ▸ hSt)), rfl, rfl⟩,
          Lib.hid ((HC5.out.block _ (lt_of_block K03.out) hpt).trans K03.out), Lib.hid ((HC5.out.block _ (lt_of_block K13.out) hpt1).trans K13.out)⟩
      · exact ⟨rfl, .inr (EndI.after ⟨rfl, hend⟩ (Stp.below HB0.out))⟩
    · have hs1 := txAt_old HT1.out HOK.out
      subst hs1
      obtain ⟨a, m, cp, rfl, hr, hmc, ha⟩ := HTX.out rfl
      go_wp2
      go_meet
      case rel => exact ⟨⟨a, m, cp, rfl, hr.below hD0, hmc, fun p e => ⟨(ha p e).1, Nat.lt_of_lt_of_le (ha p e).2 hD0.size⟩, HD0.out, Stp.below HB0.out, rfl, rfl⟩, K0, K1⟩
  case rest =>
    obtain ⟨⟨a, m, cp, rfl, hr, hmc, ha, hk, hst, hps1, htx1⟩, kp, ks⟩ := hcut
    have hml := hr.1
    have hl0 : 0 < (P.txL (P.pg C.img n)).length := by omega
    obtain ⟨pa, rfl, -⟩ := hr.at 0 hl0
    have HFIN := Lib.hid (show EndX C S w (pan 8) wc from .inl (EndC.after (hk.endC) hst))
    have gp := cell_blk kp.out
    have c7 : (m : Int) ≤ (cp : Int) := by omega
    have c8 : (b : Int) + (c : Int) ≤ 1000 := by omega
    have c10 : (m : Int) ≤ 9223372036854775807 := by have := hr.2.1; unfold maxLen at this; omega
    have c4 : (1 : Int) ≤ (c : Int) := by omega
    have c5 : (0 : Int) ≤ (b : Int) := by omega
    by_cases c1 : (b : Int) ≤ (m : Int)
    · by_cases c2 : (c : Int) ≤ (m : Int) - (b : Int)
      · have hbc : b + c ≤ (P.txL (P.pg C.img n)).length := by omega
        have hcut := hr.cut b c (by omega)
        obtain ⟨L, hL⟩ : ∃ L, L = P.slice (P.txL (P.pg C.img n)) b c := ⟨_, rfl⟩
        rw [← hL] at hcut
        have hne : ¬ ((P.nls (P.cutP C.img ⟨n, b, c, l⟩) : Int) = l) := fun e => HNO.out ⟨hbc, e⟩
        have HL := Lib.hid hL
        have HCUT := Lib.hid hcut
        have c3 : ¬ cp = b := by omega
        have c6 : (b : Int) + (c : Int) ≤ (m : Int) := by omega
        have c9 : b + c - b = c := by omega
        have hLl : L.length = c := HCUT.out.1
        have HLL := Lib.hid hLl
        have HC := Lib.hid (show (((List.count (10 : UInt8) (L.take c) : Nat) : Int) == (l : Int)) = false by
          rw [List.take_of_length_le (by omega), HL.out]
          have h := hne
          simpa [P.nls, P.cutP] using h)
        clear hL hcut ha hr hk hst hps1 htx1 hml g0 hg hLl hne
        go_wp2_with (go_at_call 59; refine (must_t _).mono ?_; rintro e w4 ⟨rfl, rfl⟩)
        go_loop [8, 67] (fun nn i => ∃ k : Nat, k ≤ c ∧ i = .int .i64 k ∧ nn = .int .i64 ((List.count (10 : UInt8) (L.take k) : Nat) : Int)) (fun _ i => c - (intOf i).toNat)
        case atStart => exact ⟨0, by omega, rfl, by simp⟩
        case round =>
          obtain ⟨k, hk, rfl, rfl⟩ := hrel
          by_cases hlt : k < c
          · have hkl : k < L.length := by have := HLL.out; omega
            obtain ⟨pb, hpb, hcell⟩ := HCUT.out.at k hkl
            cases hpb
            have hts : L.take (k + 1) = L.take k ++ [L[k]] := by rw [List.take_succ_eq_append_getElem hkl]
            have hle : List.count (10 : UInt8) (L.take k) ≤ k := by
              have h1 := List.count_le_length (a := (10 : UInt8)) (l := L.take k)
              have h2 := List.length_take_le k L
              omega
            unfold bv at hcell
            obtain ⟨x, hx⟩ : ∃ x, x = L[k] := ⟨_, rfl⟩
            rw [← hx] at hcell hts
            by_cases h10 : x = 10
            · subst h10
              have HN := Lib.hid (show List.count (10 : UInt8) (L.take (k + 1)) = List.count (10 : UInt8) (L.take k) + 1 by rw [hts]; simp)
              have hcell' : wc.cell? ((pa.add b).add k) = some (.int .u8 10) := hcell
              generalize List.count (10 : UInt8) (L.take k) = N at *
              clear hx hts hcell
              go_wp2
              go_round
              case rel => exact ⟨k + 1, by omega, by go_num, by rw [HN.out]; go_num⟩
              case measure => simp [intOf]; omega
            · have HN := Lib.hid (show List.count (10 : UInt8) (L.take (k + 1)) = List.count (10 : UInt8) (L.take k) by rw [hts]; simp [h10])
              have hb : ((x.toNat : Int) == 10) = false := by
                have : x.toNat ≠ 10 := fun e => h10 (UInt8.toNat_inj.1 e)
                simp
                omega
              generalize List.count (10 : UInt8) (L.take k) = N at *
              clear hx hts h10
              go_wp2
              go_round
              case rel => exact ⟨k + 1, by omega, by go_num, by rw [HN.out]⟩
              case measure => simp [intOf]; omega
          · obtain rfl : c = k := by omega
            have q2 := HC.out
            go_wp2_with (go_at_call 59; refine (must_f _).mono ?_; rintro e w4 ⟨rfl, rfl⟩)
            exact ⟨rfl, HFIN.out⟩
      · clear ha hr hk hst hps1 htx1 hml g0 hg
        go_wp2_with (go_at_call 59; refine (must_f _).mono ?_; rintro e w4 ⟨rfl, rfl⟩)
        exact ⟨rfl, HFIN.out⟩
    · clear ha hr hk hst hps1 htx1 hml g0 hg
      go_wp2_with (go_at_call 59; refine (must_f _).mono ?_; rintro e w4 ⟨rfl, rfl⟩)
      exact ⟨rfl, HFIN.out⟩
theorem txAt_none {C : AC} {st : P.St} {n : Nat} (h : P.txAt C.img C.np st n = none) : tkF st n = false ∧ (P.free? C.np st n = false ∨ (P.free? C.np st n = true ∧ ¬ P.txErr (P.pg C.img n) = 0)) := by
  unfold P.txAt at h
  split at h
  · cases h
  · rename_i h4
    split at h
    · cases h
    · rename_i hc
      refine ⟨by simp [tkF, h4], ?_⟩
      rcases hf : P.free? C.np st n with _ | _
      · exact .inl rfl
      · exact .inr ⟨rfl, fun e => hc ⟨hf, e⟩⟩
set_option maxRecDepth 100000 in
set_option maxHeartbeats 3200000 in
theorem piece_no1 (C : AC) (Lo S : Nat → Prop) (st : P.St) (vS : Value) (n b c l : Nat) (w : World) (h : Wk C Lo S w st (tkF st) vS) (hm : P.Q.mayP ⟨n, b, c, l⟩ = true) (htx1 : P.txAt C.img C.np st n = none) :
    Calls Tryz.prog 99 #[.pointer (some ⟨C.q, 0, none⟩), .agg #[.int .i64 (n : Int), .int .i64 (b : Int), .int .i64 (c : Int), .int .i64 (l : Int)]] w (EndX C S w) := by
  have hmi := (P.Q.mayP_iff _).1 hm
  simp only at hmi
  obtain ⟨htk, hcase⟩ := txAt_none htx1
  clear htx1
  obtain ⟨w0, hw0⟩ : ∃ w0, w0 = (w.alloc (.cells #[.int .i64 (n : Int), .int .i64 (b : Int), .int .i64 (c : Int), .int .i64 (l : Int)] 59)).alloc (.cells #[.int .i64 0, .int .i64 0, .int .i64 0] 158) := ⟨_, rfl⟩
  have hb0 : Below w.heap.size w w0 := by rw [hw0]; exact (((Below.refl _ w).alloc (Nat.le_refl _) _).alloc (by simp) _)
  have k0 : w0.heap[w.heap.size]? = some (.cells #[.int .i64 (n : Int), .int .i64 (b : Int), .int .i64 (c : Int), .int .i64 (l : Int)] 59 (0, 0)) := by rw [hw0]; exact alloc_old (alloc_new _ _ _ rfl) _
  have k1 : w0.heap[w.heap.size + 1]? = some (.cells #[.int .i64 0, .int .i64 0, .int .i64 0] 158 (0, 0)) := by rw [hw0]; exact alloc_new _ _ _ (by simp)
  have hSt : S C.t := h.2.2.2.2.1.2.2.1
  have hqt : C.q ≠ C.t := h.qt
  have hpt : w.heap.size ≠ C.t := fun e => by have := h.sets _ hSt; omega
  have hpt1 : w.heap.size + 1 ≠ C.t := fun e => by have := h.sets _ hSt; omega
  have hnS : ∀ j, w.heap.size ≤ j → ¬ S j := fun j hj hs => by have := h.sets _ hs; omega
  have hB0 : Below w.heap.size w w0.drew := ⟨hb0.os, hb0.tape, hb0.output, hb0.size, hb0.block⟩
  obtain ⟨X, hX⟩ : ∃ X : Nat → Prop, X = fun j => j = w.heap.size ∨ j = w.heap.size + 1 := ⟨_, rfl⟩
  have hX2 : ∀ j, X j → w.heap.size ≤ j ∧ j < w0.heap.size := fun j hj => by
    rw [hX] at hj
    have hz : w0.heap.size = w.heap.size + 2 := by rw [hw0]; simp
    rcases hj with e | e <;> omega
  have hX1 : X (w.heap.size + 1) := by rw [hX]; exact .inr rfl
  have hlay := h.lay hb0 hX2
  have hD0 : Below w0.heap.size w0 w0.drew := ⟨rfl, rfl, rfl, Nat.le_refl _, fun _ _ => rfl⟩
  obtain ⟨v0, hlk, htx⟩ := hlay.textAt n (by omega) w0.drew hD0
  have H0 := Lib.hid hlay
  obtain ⟨vP, vT, hq⟩ := (h.below hb0).cells
  have hg := cell_blk hq
  have g0 := cell_blk k0
  unfold wkC at hg
  rw [htk] at hlk
  have HZ := Lib.hid (show w0.heap.size = w.heap.size + 2 by rw [hw0]; simp)
  have HH := Lib.hid h
  clear h htx hm hq hlay hX hX2
  go_enter Tryz.func99, Tryz.ntmps99
  go_wp2_with fail
  rw [← hw0]
  clear hw0
  go_region_held3 (fun w' => w'.cell? ⟨C.q, 23, none⟩ = some (.map (some C.t)) ∧ w'.cell? ⟨w.heap.size, 0, none⟩ = some (.int .i64 (n : Int)) ∧ (Instr.lookup 109 (.map (some C.t)) (.int .i64 (n : Int)) true).run Tryz.prog w' = .ok (.tuple #[v0, .bool false]) w') (go_keep) (fail)
  go_upto_if 22 with (fail)
  have HD0 := Lib.hid (H0.out.below hD0)
  have K0 := Lib.hid k0
  have K1 := Lib.hid k1
  have hz0 : w0.heap.size = w.heap.size + 2 := HZ.out
  have HB0 := Lib.hid hB0
  clear k0 k1 hB0 hlk
  go_wp2_with fail
  rcases hcase with hf | ⟨hf, he⟩
  · refine (reach_no C (addL Lo X) S st (tkF st) vS n 4 w0.drew HD0.out (by omega) (by omega) (by omega) hf).mono ?_
    rintro e w2 ⟨rfl, hend⟩
    exact ⟨rfl, .inl (EndC.after ⟨rfl, hend⟩ (Stp.below HB0.out))⟩
  · have HF := Lib.hid hf
    have hnp := (of_decide_eq_true hf).2.2
    have HE0 := Lib.hid he
    clear hf he
    refine (reach_ok C (addL Lo X) S st (tkF st) vS n 4 w0.drew HD0.out (by omega) (by omega) HF.out).mono ?_
    rintro e w2 h
    rcases h with ⟨v, rfl, ho, hk2, hs2⟩ | ⟨rfl, hend⟩
    rotate_left
    · exact ⟨rfl, .inr (EndI.after ⟨rfl, hend⟩ (Stp.below HB0.out))⟩
    · obtain ⟨a2, c2, rfl, hr2, hc2, ha2, -⟩ := ho.form
      have hpl := pg_length C.img C.np n H0.out.1.page hnp
      rw [hpl] at hr2 hc2 ⊢
      have HR2 := Lib.hid hr2
      have HK2 := Lib.hid hk2
      have HS2 := Lib.hid hs2
      clear ho hr2 hk2 hs2 ha2
      go_wp2_with fail
      refine (text_fun a2 256 c2 _ w2 HR2.out hc2).mono ?_
      rintro e w3 ⟨a3, n3, c3, rfl, hr3, hc3, ha3, hb3⟩
      have HK3 := Lib.hid (HK2.out.below hb3)
      have HEC := Lib.hid (EndC.after (HK2.out.below hb3).endC (((Stp.below HB0.out).trans HS2.out).trans (Stp.below hb3)))
      have HX := Lib.hid (fun w => right_f (P.txErr (P.pg C.img n)) HE0.out w)
      generalize P.txErr (P.pg C.img n) = E at HX ⊢
      clear hr3 ha3
      go_wp2_with (go_at_call 80; refine (HX.out _).mono ?_; rintro e w4 ⟨rfl, rfl⟩)
      exact ⟨rfl, .inl HEC.out⟩
end Go.Proofs.YtnjpaanjgbfbaaaGreat
