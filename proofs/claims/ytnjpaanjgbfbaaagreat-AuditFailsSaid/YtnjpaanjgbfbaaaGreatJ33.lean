/- The walker: inner, below. -/
import Derived.Test.YtnjpaanjgbfbaaaGreatJ32
import Derived.Laws.StructEq
namespace Go.Proofs.YtnjpaanjgbfbaaaGreat
set_option linter.unusedVariables false
set_option linter.unusedSimpArgs false
open Go.RowKit

/-- What below does at a level. -/
def BelowIH (C : AC) (vS : Value) (lv : Nat) : Prop := ∀ (Lo S : Nat → Prop) (st : P.St) (n : Nat) (root : Bool) (w : World), Wk C Lo S w st (tkF st) vS → n < 1000000 → st.ps.length ≤ 20 * P.cnt C.np st →
  Calls Tryz.prog 77 #[.pointer (some ⟨C.q, 0, none⟩), .int .i64 (n : Int), .int .i64 (lv : Int), .bool root] w (SmEnd C Lo S vS (P.below C.img C.np false lv n root st) w)
theorem mayK_nat (x : P.Q) (h : x.mayK = true) : ∃ (n : Nat) (b c l : Int), x = ⟨(n : Int), b, c, l⟩ := by
  have hm := x.mayK_iff.1 h
  refine ⟨x.a.toNat, x.b, x.c, x.d, ?_⟩
  cases x
  simp only at hm ⊢
  congr 1
  omega
theorem below_free {img : List UInt8} {np n lv : Nat} {lim root : Bool} {st : P.St} (h : P.free? np st n = false) : P.below img np lim (lv + 1) n root st = none := by
  rw [P.below, if_neg (by rw [h]; simp)]
set_option maxRecDepth 100000 in
set_option maxHeartbeats 3200000 in
theorem inner_any (C : AC) (vS : Value) (lv lvl : Nat) (hlv : lvl = lv + 1) (hl9 : lv < 1000) (IH : BelowIH C vS lv) (Lo S : Nat → Prop) (st : P.St) (n : Nat) (root : Bool) (w : World) (h : Wk C Lo S w st (tkF st) vS) (hn : n < 1000000) (hps : st.ps.length ≤ 20 * P.cnt C.np st) :
    Calls Tryz.prog 91 #[.pointer (some ⟨C.q, 0, none⟩), .int .i64 (n : Int), .int .i64 (lvl : Int), .bool root] w (SmEnd C Lo S vS (P.below C.img C.np false (lv + 1) n root st) w) := by
  have hsub : (lvl : Int) - 1 = (lv : Int) := by omega
  have HLV := Lib.hid hlv
  have HIH := Lib.hid IH
  have hl10 : (lvl : Int) ≤ 1001 := by omega
  have hl11 : (1 : Int) ≤ (lvl : Int) := by omega
  clear hlv IH
  obtain ⟨w0, hw0⟩ : ∃ w0, w0 = w.alloc (.cells #[.int .i64 0, .int .i64 0, .int .i64 0] 158) := ⟨_, rfl⟩
  have hb0 : Below w.heap.size w w0 := by rw [hw0]; exact (Below.refl _ w).alloc (Nat.le_refl _) _
  have k0 : w0.heap[w.heap.size]? = some (.cells #[.int .i64 0, .int .i64 0, .int .i64 0] 158 (0, 0)) := by rw [hw0]; exact alloc_new _ _ _ rfl
  have hz : w0.heap.size = w.heap.size + 1 := by rw [hw0]; simp
  have hnS : ∀ j, w.heap.size ≤ j → ¬ S j := fun j hj hs => by have := h.sets _ hs; omega
  obtain ⟨X, hX⟩ : ∃ X : Nat → Prop, X = fun j => j = w.heap.size := ⟨_, rfl⟩
  have H0 := Lib.hid (h.lay hb0 (X := X) (fun j hj => by rw [hX] at hj; omega))
  have hX1 : X w.heap.size := by rw [hX]
  have HB0 := Lib.hid hb0
  have K0 := Lib.hid k0
  have HZ := Lib.hid hz
  rcases hf : P.free? C.np st n with _ | _
  · have hsp := below_free (img := C.img) (lim := false) (root := root) (lv := lv) hf
    rw [hsp]
    have HF := Lib.hid hf
    clear h hb0 k0 hf hsp hX hz
    go_enter Tryz.func91, Tryz.ntmps91
    go_wp2_with fail
    rw [← hw0]
    clear hw0
    refine (reach_no C (addL Lo X) S st (tkF st) vS n 2 w0 H0.out (by omega) (by omega) hn HF.out).mono ?_
    rintro e w2 ⟨rfl, hend⟩
    exact ⟨rfl, .inr (.inl ⟨rfl, EndC.after ⟨rfl, hend⟩ (Stp.below HB0.out)⟩)⟩
  · have HF := Lib.hid hf
    have hf2 := of_decide_eq_true hf
    have htk := tkF_keep st n 2 hf2.1 (by omega)
    have HTK := Lib.hid htk
    have hnp := hf2.2.2
    have hpl := pg_length C.img C.np n h.1.page hnp
    have HPL := Lib.hid hpl
    have HFEW := Lib.hid (show (st.hit n 2).ps.length ≤ 20 * P.cnt C.np (st.hit n 2) by rw [cnt_keep C.np st n 2 (by omega) hf]; show st.ps.length ≤ _; omega)
    clear h hb0 k0 hf hX hz hf2 htk hpl
    go_enter Tryz.func91, Tryz.ntmps91
    go_wp2_with fail
    rw [← hw0]
    clear hw0
    refine (reach_ok C (addL Lo X) S st (tkF st) vS n 2 w0 H0.out (by omega) (by omega) HF.out).mono ?_
    rintro e w2 h
    rcases h with ⟨v, rfl, ho, hk2, hs2⟩ | ⟨rfl, hend⟩
    rotate_left
    · exact ⟨rfl, .inr (.inr (EndI.after ⟨rfl, hend⟩ (Stp.below HB0.out)))⟩
    obtain ⟨a2, c2, rfl, hr2, hc2, ha2, -⟩ := ho.form
    rw [HPL.out] at hr2 hc2 ⊢
    rw [← HTK.out] at hk2
    have HR2 := Lib.hid hr2
    have HK2 := Lib.hid hk2
    have HS2 := Lib.hid hs2
    clear ho hr2 hk2 hs2 ha2
    go_wp2_with fail
    refine (kids_fun a2 256 c2 _ w2 HR2.out hc2).mono ?_
    rintro e w3 ⟨v3, rfl, ho3, hb3⟩
    obtain ⟨a3, c3, rfl, hr3, hc3, ha3, -⟩ := ho3.form
    have hS3 : Stp S w S w3 := ((Stp.below HB0.out).trans HS2.out).trans (Stp.below hb3)
    have k03 := Wk.apart ((HS2.out).trans (Stp.below hb3)) K0.out (hnS _ (Nat.le_refl _))
    have HK3 := Lib.hid (HK2.out.below hb3)
    have HS3 := Lib.hid hS3
    have K03 := Lib.hid k03
    have HA3 := Lib.hid ha3
    have HR3 := Lib.hid (show RQ w3 a3 (P.kdL (P.pg C.img n)).length (P.kdL (P.pg C.img n)) from hr3)
    have HB3 := Lib.hid hb3
    clear hS3 k03 ha3 hr3 ho3 hb3
    by_cases he : P.kdErr (P.pg C.img n) = 0
    rotate_left
    · have hsp : P.below C.img C.np false (lv + 1) n root st = none := by
        unfold P.below
        rw [if_neg (fun e => he e.2.1)]
      rw [hsp]
      have HEC := Lib.hid (EndC.after HK3.out.endC HS3.out)
      have HX := Lib.hid (fun w => right_f (P.kdErr (P.pg C.img n)) he w)
      generalize P.kdErr (P.pg C.img n) = E at HX ⊢
      clear he
      go_wp2_with (go_at_call 80; refine (HX.out _).mono ?_; rintro e w4 ⟨rfl, rfl⟩)
      exact ⟨rfl, .inr (.inl ⟨rfl, HEC.out⟩)⟩
    have HALL := Lib.hid (P.kdL_all he)
    have HE := Lib.hid he
    rw [he]
    clear he
    have hspec : P.below C.img C.np false (lv + 1) n root st = if P.kdV (P.pg C.img n) = ((lv + 1 : Nat) : Int) ∧ 2 ≤ (P.kdL (P.pg C.img n)).length ∧ (root = true ∨ 6 ≤ (P.kdL (P.pg C.img n)).length) then (P.kdL (P.pg C.img n)).foldlM (P.kidStep (P.below C.img C.np false lv)) (⟨0, 0, 0⟩, st.hit n 2) else none := by
      rw [P.below]
      by_cases hr : P.kdV (P.pg C.img n) = ((lv + 1 : Nat) : Int) ∧ 2 ≤ (P.kdL (P.pg C.img n)).length ∧ (root = true ∨ 6 ≤ (P.kdL (P.pg C.img n)).length)
      · rw [if_pos hr, if_pos ⟨HF.out, HE.out, hr⟩]
      · rw [if_neg hr, if_neg (fun e => hr e.2.2)]
    obtain ⟨SP, hSP⟩ : ∃ SP, SP = P.below C.img C.np false (lv + 1) n root st := ⟨_, rfl⟩
    rw [← hSP, ← HLV.out] at hspec
    have HSP := Lib.hid hSP.symm
    clear hSP
    generalize P.kdL (P.pg C.img n) = l at *
    generalize P.kdV (P.pg C.img n) = V at *
    obtain ⟨N, hN⟩ : ∃ N, N = l.length := ⟨_, rfl⟩
    rw [← hN] at hc3 HA3 HR3 hspec ⊢
    have HN := Lib.hid hN
    clear hN
    by_cases hroot : V = (lvl : Int) ∧ 2 ≤ N ∧ (root = true ∨ 6 ≤ N)
    rotate_left
    · rw [if_neg hroot] at hspec
      have HNO := Lib.hid (HSP.out.trans hspec)
      have HEC := Lib.hid (EndC.after HK3.out.endC HS3.out)
      have hc : (V ≠ (lvl : Int)) ∨ (V = (lvl : Int) ∧ N < 2) ∨ (V = (lvl : Int) ∧ 2 ≤ N ∧ root = false ∧ N < 6) := by
        by_cases e1 : V = (lvl : Int)
        · by_cases e2 : 2 ≤ N
          · refine .inr (.inr ⟨e1, e2, ?_, ?_⟩)
            · cases root
              · rfl
              · exact absurd ⟨e1, e2, .inl rfl⟩ hroot
            · rcases Nat.lt_or_ge N 6 with h6 | h6
              · exact h6
              · exact absurd ⟨e1, e2, .inr h6⟩ hroot
          · exact .inr (.inl ⟨e1, by omega⟩)
        · exact .inl e1
      clear hroot hspec
      rcases hc with e1 | ⟨e1, e2⟩ | ⟨e1, e2, e3, e4⟩
      · have q1 : (V == (lvl : Int)) = false := by simpa using e1
        clear e1
        go_wp2_with (first | (go_at_call 80; refine (right_t _).mono ?_; rintro e w4 ⟨rfl, rfl⟩) | (go_at_call 59; refine (must_f _).mono ?_; rintro e w4 ⟨rfl, rfl⟩))
        exact ⟨rfl, .inr (.inl ⟨HNO.out, HEC.out⟩)⟩
      · have q1 : (V == (lvl : Int)) = true := by simpa using e1
        have q2 : decide ((2 : Int) ≤ (N : Int)) = false := decide_eq_false (by omega)
        clear e1
        go_wp2_with (first | (go_at_call 80; refine (right_t _).mono ?_; rintro e w4 ⟨rfl, rfl⟩) | (go_at_call 59; refine (must_f _).mono ?_; rintro e w4 ⟨rfl, rfl⟩))
        exact ⟨rfl, .inr (.inl ⟨HNO.out, HEC.out⟩)⟩
      · have q1 : (V == (lvl : Int)) = true := by simpa using e1
        have q2 : decide ((2 : Int) ≤ (N : Int)) = true := decide_eq_true (by omega)
        have q3 : decide ((6 : Int) ≤ (N : Int)) = false := decide_eq_false (by omega)
        subst e3
        clear e1
        go_wp2_with (first | (go_at_call 80; refine (right_t _).mono ?_; rintro e w4 ⟨rfl, rfl⟩) | (go_at_call 59; refine (must_f _).mono ?_; rintro e w4 ⟨rfl, rfl⟩))
        exact ⟨rfl, .inr (.inl ⟨HNO.out, HEC.out⟩)⟩
    · rw [if_pos hroot] at hspec
      have HSM := Lib.hid (HSP.out.trans hspec)
      have HRT := Lib.hid hroot
      obtain ⟨w4, hw4⟩ : ∃ w4, w4 = w3.alloc (.cells #[.int .i64 0, .int .i64 0, .int .i64 0] 158) := ⟨_, rfl⟩
      have hb4 : Below w3.heap.size w3 w4 := by rw [hw4]; exact (Below.refl _ w3).alloc (Nat.le_refl _) _
      have k4 : w4.heap[w3.heap.size]? = some (.cells #[.int .i64 0, .int .i64 0, .int .i64 0] 158 (0, 0)) := by rw [hw4]; exact alloc_new _ _ _ rfl
      obtain ⟨Y, hY⟩ : ∃ Y : Nat → Prop, Y = fun j => j = w3.heap.size := ⟨_, rfl⟩
      have hz4 : w4.heap.size = w3.heap.size + 1 := by rw [hw4]; simp
      have H4 := Lib.hid (HK3.out.lay hb4 (X := Y) (fun j hj => by rw [hY] at hj; omega))
      have hY1 : Y w3.heap.size := by rw [hY]
      have K4 := Lib.hid k4
      have K04 := Lib.hid ((hb4.block _ (lt_of_block K03.out)).trans K03.out)
      have HS4 := Lib.hid (HS3.out.trans (Stp.below hb4))
      have HR4 := Lib.hid (HR3.out.below hb4)
      have HA4 := Lib.hid (show ∀ p, a3 = some p → ¬ S p.block from fun p e hs => by have := (HA3.out p e).1; have := HK2.out.sets _ hs; omega)
      have hnS3 : ¬ S w3.heap.size := fun hs => by have := HK3.out.sets _ hs; omega
      have l4 := lt_of_block k4
      have l04 := lt_of_block K04.out
      obtain ⟨G, hG⟩ : ∃ G, G = w3.heap.size := ⟨_, rfl⟩
      have HW4 := Lib.hid hw4
      have HB4 := Lib.hid hb4
      clear hb4 k4 hw4 hY hz4 hroot hspec
      have q1 : (V == (lvl : Int)) = true := by simpa using HRT.out.1
      have q2 : decide ((2 : Int) ≤ (N : Int)) = true := decide_eq_true (by have := HRT.out.2.1; omega)
      have go : root = true ∨ (root = false ∧ 6 ≤ N) := by
        have := HRT.out.2.2
        cases root <;> simp_all
      rcases go with rfl | ⟨rfl, h10⟩
      all_goals
        first | (have h10' : decide ((6 : Int) ≤ (N : Int)) = true := decide_eq_true (by omega)) | skip
        go_wp2_with (first | (go_at_call 80; refine (right_t _).mono ?_; rintro e w5 ⟨rfl, rfl⟩) | (go_at_call 59; refine (must_t _).mono ?_; rintro e w5 ⟨rfl, rfl⟩))
        rw [← HW4.out]
        clear HW4
        rw [← hG]
        have HG := Lib.hid hG
        clear hG
        go_loopw [45] (fun i wr => ∃ (k : Nat) (sm : P.Sm) (sk : P.St) (Sk : Nat → Prop), k ≤ N ∧ i = .int .i64 k ∧ (l.take k).foldlM (P.kidStep (P.below C.img C.np false lv)) (⟨0, 0, 0⟩, st.hit n 2) = some (sm, sk) ∧ Wk C (addL (addL Lo X) Y) Sk wr sk (tkF sk) vS ∧ Stp S w Sk wr ∧ Stp S w3 Sk wr ∧ ¬ Sk G ∧ sk.ps.length ≤ 20 * P.cnt C.np sk ∧
          wr.heap[G]? = some (.cells #[.int .i64 sm.p, .int .i64 sm.b, .int .i64 sm.l] 158 (0, 0)) ∧ (0 ≤ sm.p ∧ sm.p ≤ 1048576 * k ∧ 0 ≤ sm.b ∧ sm.b ≤ 1048576 * k ∧ 0 ≤ sm.l ∧ sm.l ≤ 1048576 * k)) (fun i _ => N - (intOf i).toNat)
        case atStart => exact ⟨0, ⟨0, 0, 0⟩, st.hit n 2, S, by omega, rfl, rfl, H4.out, HS4.out, Stp.below HB4.out, by rw [HG.out]; exact hnS3, HFEW.out, by rw [HG.out]; exact K4.out, by simp⟩
        case round =>
          obtain ⟨k, sm, sk, Sk, hk, rfl, hfold, hwk, hst, hst4, hnG, hpl, hbox, s1, s2, s3, s4, s5, s6⟩ := hrel
          by_cases hlt : k < N
          · have hkl : k < l.length := by have := HN.out; omega
            obtain ⟨nn, kb, kc, kd, hx⟩ := mayK_nat l[k] (HALL.out.2.1 k hkl)
            have hm := HALL.out.2.1 k hkl
            rw [hx] at hm
            obtain ⟨pa, rfl, e1, e2, e3, e4⟩ := RQ.at (HR3.out.stp hst4 HA4.out) k hkl
            rw [hx] at e1 e2 e3 e4
            simp only at e1 e2 e3 e4
            have hft := P.foldlM_take (P.kidStep (P.below C.img C.np false lv)) l (⟨0, 0, 0⟩, st.hit n 2) k hkl
            rw [hfold, hx] at hft
            have hlc : l.length ≤ 12 := HALL.out.1
            have hm2 := (P.Q.mayK_iff _).1 hm
            simp only at hm2
            have HFT := Lib.hid hft
            have HF0 := Lib.hid hfold
            have HWK := Lib.hid hwk
            have HST := Lib.hid hst
            have HST4 := Lib.hid hst4
            have HBX := Lib.hid hbox
            have HX := Lib.hid hx
            have i0 : (0 : Int) ≤ (k : Int) := by omega
            have i1 : (k : Int) < (N : Int) := by omega
            obtain ⟨w5, hw5⟩ : ∃ w5, w5 = wr.alloc (.cells #[.int .i64 (nn : Int), .int .i64 kb, .int .i64 kc, .int .i64 kd] 92) := ⟨_, rfl⟩
            have hb5 : Below wr.heap.size wr w5 := by rw [hw5]; exact (Below.refl _ wr).alloc (Nat.le_refl _) _
            have k5 : w5.heap[wr.heap.size]? = some (.cells #[.int .i64 (nn : Int), .int .i64 kb, .int .i64 kc, .int .i64 kd] 92 (0, 0)) := by rw [hw5]; exact alloc_new _ _ _ rfl
            have HB5 := Lib.hid hb5
            have H5 := Lib.hid (HWK.out.below hb5)
            have g5 := cell_blk k5
            have HK5 := Lib.hid k5
            have hnK : ¬ Sk wr.heap.size := fun hs => by have := HWK.out.sets _ hs; omega
            have HPC := Lib.hid (HIH.out (addL (addL Lo X) Y) Sk sk nn false w5 H5.out (by omega) hpl)
            clear hb5 hft hfold hwk hst hst4 hbox hx k5
            go_wp2_with fail
            rw [← hw5]
            clear hw5 e1 e2 e3 e4
            refine HPC.out.mono ?_
            rintro e w6 (⟨y, S6, hy, rfl, hk6, hs6⟩ | ⟨hno, h⟩ | h)
            rotate_left
            · have HNO := Lib.hid (show P.below C.img C.np false (lv + 1) n _ st = none from by
                rw [HSM.out]
                exact P.foldlM_fail _ _ _ (k + 1) (by rw [HFT.out]; simp only [Option.bind_some]; unfold P.kidStep; simp only [Int.toNat_natCast]; rw [hno]; rfl))
              obtain ⟨rfl, h⟩ := h
              exact ⟨rfl, .inr (.inl ⟨HNO.out, EndC.after (EndC.after ⟨rfl, h⟩ (Stp.below HB5.out)) HST.out⟩)⟩
            · obtain ⟨rfl, h⟩ := h
              exact ⟨rfl, .inr (.inr (EndI.after (EndI.after ⟨rfl, h⟩ (Stp.below HB5.out)) HST.out))⟩
            obtain ⟨⟨yp, yb, yl⟩, s'⟩ := y
            have kK6 := Wk.apart hs6 HK5.out hnK
            have kG6 := Wk.apart hs6 ((HB5.out.block _ (lt_of_block HBX.out)).trans HBX.out) hnG
            have gK := fun o : Obj => cell_blk (alloc_old kK6 o)
            have gG := fun o : Obj => cell_blk (alloc_old kG6 o)
            have fG := fun o : Obj => free_blk (alloc_old kG6 o)
            have gK1 := cell_blk kK6
            have gG1 := cell_blk kG6
            have fG1 := free_blk kG6
            have HK6 := Lib.hid hk6
            have HS6 := Lib.hid hs6
            have KG6 := Lib.hid kG6
            have lG6 := lt_of_block kG6
            have lK6 := lt_of_block kK6
            have hne : ¬ G = w6.heap.size := by omega
            have hne2 : ¬ w6.heap.size = G := by omega
            have hne3 : ¬ wr.heap.size = w6.heap.size := by omega
            have HY := Lib.hid hy
            obtain ⟨kk1, kk2, kk3, kk4, kk5, kk6, kk7⟩ := hm2
            by_cases heq : yp = kb ∧ yb = kc ∧ yl = kd
            rotate_left
            · have HNO := Lib.hid (show P.below C.img C.np false (lv + 1) n _ st = none from by
                rw [HSM.out]
                refine P.foldlM_fail _ _ _ (k + 1) ?_
                rw [HFT.out]
                simp only [Option.bind_some]
                unfold P.kidStep
                simp only [Int.toNat_natCast]
                rw [HY.out]
                simp only [Option.bind_some]
                rw [if_neg]
                intro e
                injection e with e1 e2 e3
                exact heq ⟨e1, e2, e3⟩)
              have HEC := Lib.hid (fun o => EndC.after (EndC.after (EndC.after (HK6.out.below ((Below.refl _ w6).alloc (Nat.le_refl _) o)).endC (Stp.below ((Below.refl _ w6).alloc (Nat.le_refl _) o))) HS6.out) (HST.out.trans (Stp.below HB5.out)))
              clear hk6 hs6 kG6 kK6 hy
              go_wp2_with (go_at_call 59; refine (must_f _).mono ?_; rintro e w7 ⟨rfl, rfl⟩)
              all_goals
                first
                  | (exfalso; exact heq ⟨by assumption, by assumption, by assumption⟩)
                  | exact ⟨rfl, .inr (.inl ⟨HNO.out, HEC.out _⟩)⟩
            obtain ⟨rfl, rfl, rfl⟩ := heq
            have HKS := Lib.hid (show (l.take (k + 1)).foldlM (P.kidStep (P.below C.img C.np false lv)) (⟨0, 0, 0⟩, st.hit n 2) = some (sm.add ⟨yp, yb, yl⟩, s') from by
              rw [HFT.out]
              simp only [Option.bind_some]
              exact P.kid_of (z := (⟨yp, yb, yl⟩, s')) (k := ⟨(nn : Int), yp, yb, yl⟩) HY.out rfl)
            have hfew := P.below_few lv _ _ _ _ HY.out
            simp only at hfew
            have hpl6 : s'.ps.length ≤ 20 * P.cnt C.np s' := by omega
            clear hk6 hs6 kG6 kK6 hy hfew
            have hGw : w3.heap.size ≤ G := Nat.le_of_eq HG.out.symm
            have HGY := Lib.hid (show Y G by rw [HG.out]; exact hY1)
            have lG5 : G < w5.heap.size := Nat.lt_of_lt_of_le (lt_of_block HBX.out) HB5.out.size
            have hw3 : w.heap.size ≤ w3.heap.size := HS3.out.1.size
            have hnG6 : ¬ S6 G := fun hs => hnG (HS6.out.2 G lG5 hs)
            go_wp2_with (go_at_call 59; refine (must_t _).mono ?_; rintro e w7 ⟨rfl, rfl⟩)
            refine ⟨⟨k + 1, sm.add ⟨yp, yb, yl⟩, s', S6, by omega, by go_num, HKS.out, (HK6.out.local G (.inr HGY.out) hnG6 (chgS _ _ _ _ _)).below ((Below.refl _ _).alloc (Nat.le_refl _) _), ?_, ?_, hnG6, hpl6, ?_, ?_⟩, by simp [intOf]; omega⟩
            · have T1 := (HST.out.trans (Stp.below HB5.out)).trans HS6.out
              exact Stp.trans ⟨T1.1.then (chgS _ _ _ _ _) (fun i hi e => by omega), T1.2⟩ (Stp.below ((Below.refl _ _).alloc (Nat.le_refl _) _))
            · have T1 := (HST4.out.trans (Stp.below HB5.out)).trans HS6.out
              exact Stp.trans ⟨T1.1.then (chgS _ _ _ _ _) (fun i hi e => by omega), T1.2⟩ (Stp.below ((Below.refl _ _).alloc (Nat.le_refl _) _))
            · exact alloc_old (blkS KG6.out _ _ _) _
            · unfold P.Sm.add
              simp only
              omega
          · obtain rfl : k = N := by omega
            rw [HN.out, List.take_length] at hfold
            have HNEW := Lib.hid (show P.below C.img C.np false (lv + 1) n _ st = some (sm, sk) from by rw [HSM.out, hfold])
            have HWK := Lib.hid hwk
            have HST := Lib.hid hst
            have hk0 : wr.heap[w.heap.size]? = _ := Wk.apart hst4 K03.out (hnS _ (Nat.le_refl _))
            have gG := cell_blk hbox
            have f0 := free_blk hk0
            have g0 := cell_blk hk0
            have HK0 := Lib.hid hk0
            have hnS0 : ¬ Sk w.heap.size := fun hs => hnS _ (Nat.le_refl _) (hst4.2 _ (by have := lt_of_block K03.out; omega) hs)
            clear hwk hst hst4 hbox hk0 hfold
            go_wp2
            generalize hW2 : World.setCell _ ⟨w.heap.size, 2, none⟩ _ = W2
            have hc2 : Chg (fun k => k = w.heap.size) wr W2 := by
              rw [← hW2]
              exact chgS _ _ _ _ _
            have cl2 := cell_blk (show W2.heap[w.heap.size]? = some (.cells #[.int .i64 sm.p, .int .i64 sm.b, .int .i64 sm.l] 158 (0, 0)) by rw [← hW2]; exact blkS HK0.out _ _ _)
            have hfin := (HWK.out.local w.heap.size (.inl (.inr hX1)) hnS0 hc2).unlay.unlay
            exact bodyPost_ret (v := .agg #[.int .i64 sm.p, .int .i64 sm.b, .int .i64 sm.l]) (by simp [results, Tryz.results91, go_sem, cl2]) rfl (.inl ⟨_, Sk, HNEW.out, rfl, hfin, ⟨HST.out.1.then hc2 (fun i hi e => by omega), HST.out.2⟩⟩)
end Go.Proofs.YtnjpaanjgbfbaaaGreat
