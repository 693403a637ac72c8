/- The walker: leaf. -/
import Derived.Test.YtnjpaanjgbfbaaaGreatJ29
import Derived.Test.YtnjpaanjgbfbaaaGreatJ09
namespace Go.Proofs.YtnjpaanjgbfbaaaGreat
set_option linter.unusedVariables false
set_option linter.unusedSimpArgs false
open Go.RowKit

theorem piece_no (C : AC) (Lo S : Nat → Prop) (st : P.St) (vS : Value) (n b c l : Nat) (w : World) (h : Wk C Lo S w st (tkF st) vS) (hm : P.Q.mayP ⟨n, b, c, l⟩ = true) (hs : P.piece C.img C.np false st ⟨n, b, c, l⟩ = none) :
    Calls Tryz.prog 99 #[.pointer (some ⟨C.q, 0, none⟩), .agg #[.int .i64 (n : Int), .int .i64 (b : Int), .int .i64 (c : Int), .int .i64 (l : Int)]] w (EndX C S w) := by
  unfold P.piece at hs
  simp only [Int.toNat_natCast] at hs
  rcases htx : P.txAt C.img C.np st n with _ | s1
  · exact piece_no1 C Lo S st vS n b c l w h hm htx
  · rw [htx] at hs
    simp only [Option.bind_some] at hs
    have hnp : n < C.np := by
      unfold P.txAt at htx
      split at htx
      · rename_i h4
        exact h.lt n (by omega)
      · split at htx
        · rename_i hf
          exact (of_decide_eq_true hf.1).2.2
        · cases htx
    refine piece_no2 C Lo S st s1 vS n b c l w h hm hnp htx (fun e => ?_)
    rw [if_pos ⟨e.1, e.2, fun e => by cases e⟩] at hs
    cases hs
/-- How a part of the walk that sums ends. -/
def SmEnd (C : AC) (Lo S : Nat → Prop) (vS : Value) (spec : Option (P.Sm × P.St)) (w : World) (e : Ending) (w' : World) : Prop :=
  (∃ x S', spec = some x ∧ e = .returned (.agg #[.int .i64 x.1.p, .int .i64 x.1.b, .int .i64 x.1.l]) ∧ Wk C Lo S' w' x.2 (tkF x.2) vS ∧ Stp S w S' w') ∨ (spec = none ∧ EndC C S w e w') ∨ EndI C S w e w'
theorem RQ.stp {S S' : Nat → Prop} {w w' : World} {a : Option Addr} {n : Nat} {l : List P.Q} (h : RQ w a n l) (hs : Stp S w S' w') (ha : ∀ p, a = some p → ¬ S p.block) : RQ w' a n l := RV.chg h hs.1 ha
theorem mayP_nat (x : P.Q) (h : x.mayP = true) : ∃ n b c l : Nat, x = ⟨(n : Int), (b : Int), (c : Int), (l : Int)⟩ := by
  have hm := x.mayP_iff.1 h
  refine ⟨x.a.toNat, x.b.toNat, x.c.toNat, x.d.toNat, ?_⟩
  cases x
  simp only at hm ⊢
  congr 1 <;> omega
theorem leafW_free {img : List UInt8} {np n : Nat} {lim root : Bool} {st : P.St} (h : P.free? np st n = false) : P.leafW img np lim n root st = none := by
  unfold P.leafW
  rw [if_neg (by rw [h]; simp)]
set_option maxRecDepth 100000 in
set_option maxHeartbeats 3200000 in
theorem leaf_any (C : AC) (Lo S : Nat → Prop) (st : P.St) (vS : Value) (n : Nat) (root : Bool) (w : World) (h : Wk C Lo S w st (tkF st) vS) (hn : n < 1000000) (hps : st.ps.length ≤ 90000) :
    Calls Tryz.prog 90 #[.pointer (some ⟨C.q, 0, none⟩), .int .i64 (n : Int), .bool root] w (SmEnd C Lo S vS (P.leafW C.img C.np false n root st) w) := by
  obtain ⟨w0, hw0⟩ : ∃ w0, w0 = w.alloc (.cells #[.int .i64 0, .int .i64 0, .int .i64 0] 158) := ⟨_, rfl⟩
  have hb0 : Below w.heap.size w w0 := by rw [hw0]; exact (Below.refl _ w).alloc (Nat.le_refl _) _
  have k0 : w0.heap[w.heap.size]? = some (.cells #[.int .i64 0, .int .i64 0, .int .i64 0] 158 (0, 0)) := by rw [hw0]; exact alloc_new _ _ _ rfl
  have hz : w0.heap.size = w.heap.size + 1 := by rw [hw0]; simp
  have hnS : ∀ j, w.heap.size ≤ j → ¬ S j := fun j hj hs => by have := h.sets _ hs; omega
  obtain ⟨X, hX⟩ : ∃ X : Nat → Prop, X = fun j => j = w.heap.size := ⟨_, rfl⟩
  have H0 := Lib.hid (h.lay hb0 (X := X) (fun j hj => by rw [hX] at hj; omega))
  have hX1 : X w.heap.size := by rw [hX]
  have HB0 := Lib.hid hb0
  have K0 := Lib.hid k0
  have HZ := Lib.hid hz
  rcases hf : P.free? C.np st n with _ | _
  · have hsp := leafW_free (img := C.img) (lim := false) (root := root) hf
    rw [hsp]
    have HF := Lib.hid hf
    clear h hb0 k0 hf hsp hX hz
    go_enter Tryz.func90, Tryz.ntmps90
    go_wp2_with fail
    rw [← hw0]
    clear hw0
    refine (reach_no C (addL Lo X) S st (tkF st) vS n 3 w0 H0.out (by omega) (by omega) hn HF.out).mono ?_
    rintro e w2 ⟨rfl, hend⟩
    exact ⟨rfl, .inr (.inl ⟨rfl, EndC.after ⟨rfl, hend⟩ (Stp.below HB0.out)⟩)⟩
  · have HF := Lib.hid hf
    have hf2 := of_decide_eq_true hf
    have htk := tkF_keep st n 3 hf2.1 (by omega)
    have HTK := Lib.hid htk
    have hnp := hf2.2.2
    have hpl := pg_length C.img C.np n h.1.page hnp
    have HPL := Lib.hid hpl
    clear h hb0 k0 hf hX hz hf2 htk hpl
    go_enter Tryz.func90, Tryz.ntmps90
    go_wp2_with fail
    rw [← hw0]
    clear hw0
    refine (reach_ok C (addL Lo X) S st (tkF st) vS n 3 w0 H0.out (by omega) (by omega) HF.out).mono ?_
    rintro e w2 h
    rcases h with ⟨v, rfl, ho, hk2, hs2⟩ | ⟨rfl, hend⟩
    rotate_left
    · exact ⟨rfl, .inr (.inr (EndI.after ⟨rfl, hend⟩ (Stp.below HB0.out)))⟩
    obtain ⟨a2, c2, rfl, hr2, hc2, ha2, -⟩ := ho.form
    rw [HPL.out] at hr2 hc2 ⊢
    rw [← HTK.out] at hk2
    have HR2 := Lib.hid hr2
    have HK2 := Lib.hid hk2
    have HS2 := Lib.hid hs2
    clear ho hr2 hk2 hs2 ha2
    go_wp2_with fail
    refine (pieces_fun a2 256 c2 _ w2 HR2.out hc2).mono ?_
    rintro e w3 ⟨v3, rfl, ho3, hb3⟩
    obtain ⟨a3, c3, rfl, hr3, hc3, ha3, -⟩ := ho3.form
    have hS3 : Stp S w S w3 := ((Stp.below HB0.out).trans HS2.out).trans (Stp.below hb3)
    have k03 := Wk.apart ((HS2.out).trans (Stp.below hb3)) K0.out (hnS _ (Nat.le_refl _))
    have HK3 := Lib.hid (HK2.out.below hb3)
    have HS3 := Lib.hid hS3
    have K03 := Lib.hid k03
    have HA3 := Lib.hid ha3
    have HR3 := Lib.hid (show RQ w3 a3 (P.pcL (P.pg C.img n)).length (P.pcL (P.pg C.img n)) from hr3)
    have HB3 := Lib.hid hb3
    clear hS3 k03 ha3 hr3 ho3 hb3
    by_cases he : P.pcErr (P.pg C.img n) = 0
    rotate_left
    · have hsp : P.leafW C.img C.np false n root st = none := by
        unfold P.leafW
        rw [if_neg (fun e => he e.2.1)]
      rw [hsp]
      have HEC := Lib.hid (EndC.after HK3.out.endC HS3.out)
      have HX := Lib.hid (fun w => right_f (P.pcErr (P.pg C.img n)) he w)
      generalize P.pcErr (P.pg C.img n) = E at HX ⊢
      clear he
      go_wp2_with (go_at_call 80; refine (HX.out _).mono ?_; rintro e w4 ⟨rfl, rfl⟩)
      exact ⟨rfl, .inr (.inl ⟨rfl, HEC.out⟩)⟩
    have HALL := Lib.hid (P.pcL_all he)
    have HE := Lib.hid he
    rw [he]
    clear he
    have hspec : P.leafW C.img C.np false n root st = if root = true ∨ 10 ≤ (P.pcL (P.pg C.img n)).length then ((P.pcL (P.pg C.img n)).foldlM (P.piece C.img C.np false) (st.hit n 3)).map fun s => (P.smOf (P.pcL (P.pg C.img n)), s) else none := by
      unfold P.leafW
      by_cases hr : root = true ∨ 10 ≤ (P.pcL (P.pg C.img n)).length
      · rw [if_pos hr, if_pos ⟨HF.out, HE.out, hr⟩]
      · rw [if_neg hr, if_neg (fun e => hr e.2.2)]
    obtain ⟨SP, hSP⟩ : ∃ SP, SP = P.leafW C.img C.np false n root st := ⟨_, rfl⟩
    rw [← hSP] at hspec
    have HSP := Lib.hid hSP.symm
    clear hSP
    generalize P.pcL (P.pg C.img n) = l at *
    obtain ⟨N, hN⟩ : ∃ N, N = l.length := ⟨_, rfl⟩
    rw [← hN] at hc3 HA3 HR3 hspec ⊢
    have HN := Lib.hid hN
    clear hN
    by_cases hroot : root = true ∨ 10 ≤ N
    rotate_left
    · rw [if_neg hroot] at hspec
      have HNO := Lib.hid (HSP.out.trans hspec)
      have HEC := Lib.hid (EndC.after HK3.out.endC HS3.out)
      obtain rfl : root = false := by cases root <;> simp_all
      have h10 : decide ((10 : Int) ≤ (N : Int)) = false := decide_eq_false (fun e => hroot (.inr (by omega)))
      clear hroot hspec
      go_wp2_with (first | (go_at_call 80; refine (right_t _).mono ?_; rintro e w4 ⟨rfl, rfl⟩) | (go_at_call 59; refine (must_f _).mono ?_; rintro e w4 ⟨rfl, rfl⟩))
      exact ⟨rfl, .inr (.inl ⟨HNO.out, HEC.out⟩)⟩
    · rw [if_pos hroot] at hspec
      have HSM := Lib.hid (HSP.out.trans hspec)
      have HRT := Lib.hid hroot
      obtain ⟨w4, hw4⟩ : ∃ w4, w4 = w3.alloc (.cells #[.int .i64 0, .int .i64 0, .int .i64 0] 158) := ⟨_, rfl⟩
      have hb4 : Below w3.heap.size w3 w4 := by rw [hw4]; exact (Below.refl _ w3).alloc (Nat.le_refl _) _
      have k4 : w4.heap[w3.heap.size]? = some (.cells #[.int .i64 0, .int .i64 0, .int .i64 0] 158 (0, 0)) := by rw [hw4]; exact alloc_new _ _ _ rfl
      obtain ⟨Y, hY⟩ : ∃ Y : Nat → Prop, Y = fun j => j = w3.heap.size := ⟨_, rfl⟩
      have hz4 : w4.heap.size = w3.heap.size + 1 := by rw [hw4]; simp
      have H4 := Lib.hid (HK3.out.lay hb4 (X := Y) (fun j hj => by rw [hY] at hj; omega))
      have hY1 : Y w3.heap.size := by rw [hY]
      have K4 := Lib.hid k4
      have K04 := Lib.hid ((hb4.block _ (lt_of_block K03.out)).trans K03.out)
      have HS4 := Lib.hid (HS3.out.trans (Stp.below hb4))
      have HR4 := Lib.hid (HR3.out.below hb4)
      have HA4 := Lib.hid (show ∀ p, a3 = some p → ¬ S p.block from fun p e hs => by have := (HA3.out p e).1; have := HK2.out.sets _ hs; omega)
      have hnS3 : ¬ S w3.heap.size := fun hs => by have := HK3.out.sets _ hs; omega
      have l4 := lt_of_block k4
      have l04 := lt_of_block K04.out
      obtain ⟨G, hG⟩ : ∃ G, G = w3.heap.size := ⟨_, rfl⟩
      have HW4 := Lib.hid hw4
      have HB4 := Lib.hid hb4
      clear hb4 k4 hw4 hY hz4 hroot hspec
      have go : root = true ∨ (root = false ∧ 10 ≤ N) := by
        have := HRT.out
        cases root <;> simp_all
      rcases go with rfl | ⟨rfl, h10⟩
      all_goals
        first | (have h10' : (10 : Int) ≤ (N : Int) := by omega) | skip
        go_wp2_with (first | (go_at_call 80; refine (right_t _).mono ?_; rintro e w5 ⟨rfl, rfl⟩) | (go_at_call 59; refine (must_t _).mono ?_; rintro e w5 ⟨rfl, rfl⟩))
        rw [← HW4.out]
        clear HW4
        rw [← hG]
        have HG := Lib.hid hG
        clear hG
        go_loopw [31] (fun i wr => ∃ (k : Nat) (sk : P.St) (Sk : Nat → Prop), k ≤ N ∧ i = .int .i64 k ∧ (l.take k).foldlM (P.piece C.img C.np false) (st.hit n 3) = some sk ∧ Wk C (addL (addL Lo X) Y) Sk wr sk (tkF sk) vS ∧ Stp S w Sk wr ∧ Stp S w3 Sk wr ∧ ¬ Sk G ∧ sk.ps.length = st.ps.length + k ∧
          wr.heap[G]? = some (.cells #[.int .i64 (P.smOf (l.take k)).p, .int .i64 (P.smOf (l.take k)).b, .int .i64 (P.smOf (l.take k)).l] 158 (0, 0))) (fun i _ => N - (intOf i).toNat)
        case atStart => exact ⟨0, st.hit n 3, S, by omega, rfl, rfl, H4.out, HS4.out, Stp.below HB4.out, by rw [HG.out]; exact hnS3, rfl, by rw [HG.out]; exact K4.out⟩
        case round =>
          obtain ⟨k, sk, Sk, hk, rfl, hfold, hwk, hst, hst4, hnG, hpl, hbox⟩ := hrel
          by_cases hlt : k < N
          · have hkl : k < l.length := by have := HN.out; omega
            obtain ⟨nn, bb, cc, ll, hx⟩ := mayP_nat l[k] (HALL.out.2 k hkl)
            have hm := HALL.out.2 k hkl
            rw [hx] at hm
            obtain ⟨pa, rfl, e1, e2, e3, e4⟩ := RQ.at (HR3.out.stp hst4 HA4.out) k hkl
            rw [hx] at e1 e2 e3 e4
            simp only at e1 e2 e3 e4
            have hft := P.foldlM_take (P.piece C.img C.np false) l (st.hit n 3) k hkl
            rw [hfold, hx] at hft
            have hsm := P.smOf_take l k hkl
            rw [hx] at hsm
            simp only at hsm
            have hbd := P.smOf_bound l HALL.out.2 k (by omega)
            have hlc : l.length ≤ 20 := HALL.out.1
            have hm2 := (P.Q.mayP_iff _).1 hm
            simp only at hm2
            obtain ⟨s1, s2', s3, s4, s5, s6⟩ := hbd
            have s2 : (P.smOf (l.take k)).p ≤ 20 := by omega
            clear s2'
            have HSM1 := Lib.hid hsm
            have HFT := Lib.hid hft
            have HF0 := Lib.hid hfold
            have HWK := Lib.hid hwk
            have HST := Lib.hid hst
            have HST4 := Lib.hid hst4
            have HBX := Lib.hid hbox
            have HX := Lib.hid hx
            generalize hsk : P.smOf (l.take k) = sm at *
            have i0 : (0 : Int) ≤ (k : Int) := by omega
            have i1 : (k : Int) < (N : Int) := by omega
            obtain ⟨w5, hw5⟩ : ∃ w5, w5 = wr.alloc (.cells #[.int .i64 (nn : Int), .int .i64 (bb : Int), .int .i64 (cc : Int), .int .i64 (ll : Int)] 59) := ⟨_, rfl⟩
            have hb5 : Below wr.heap.size wr w5 := by rw [hw5]; exact (Below.refl _ wr).alloc (Nat.le_refl _) _
            have HB5 := Lib.hid hb5
            have H5 := Lib.hid (HWK.out.below hb5)
            clear hb5 hft hsm hfold hwk hst hst4 hbox hx hsk
            rcases hpc : P.piece C.img C.np false sk ⟨(nn : Int), (bb : Int), (cc : Int), (ll : Int)⟩ with _ | s'
            · have HPC := Lib.hid (piece_no C (addL (addL Lo X) Y) Sk sk vS nn bb cc ll w5 H5.out hm hpc)
              have HNO := Lib.hid (show P.leafW C.img C.np false n _ st = none from by
                rw [HSM.out]
                rw [P.foldlM_fail _ _ _ (k + 1) (by rw [HFT.out]; exact hpc)]
                rfl)
              clear hpc
              go_wp2_with fail
              rw [← hw5]
              refine HPC.out.mono ?_
              rintro e w6 (h | h)
              · obtain ⟨rfl, h⟩ := h
                exact ⟨rfl, .inr (.inl ⟨HNO.out, EndC.after (EndC.after ⟨rfl, h⟩ (Stp.below HB5.out)) HST.out⟩)⟩
              · obtain ⟨rfl, h⟩ := h
                exact ⟨rfl, .inr (.inr (EndI.after (EndI.after ⟨rfl, h⟩ (Stp.below HB5.out)) HST.out))⟩
            · have HPC := Lib.hid (piece_ok C (addL (addL Lo X) Y) Sk sk s' vS nn bb cc ll w5 H5.out hm (by omega) hpc)
              have HPS := Lib.hid hpc
              clear hpc
              go_wp2_with fail
              rw [← hw5]
              clear hw5 e1 e2 e3 e4
              refine HPC.out.mono ?_
              rintro e w6 (⟨S6, rfl, hk6, hs6⟩ | h)
              rotate_left
              · obtain ⟨rfl, h⟩ := h
                exact ⟨rfl, .inr (.inr (EndI.after (EndI.after ⟨rfl, h⟩ (Stp.below HB5.out)) HST.out))⟩
              have kG6 := Wk.apart hs6 ((HB5.out.block _ (lt_of_block HBX.out)).trans HBX.out) hnG
              have gG := fun o : Obj => cell_blk (alloc_old kG6 o)
              have fG := fun o : Obj => free_blk (alloc_old kG6 o)
              have gG1 := cell_blk kG6
              have fG1 := free_blk kG6
              have HK6 := Lib.hid hk6
              have HS6 := Lib.hid hs6
              have KG6 := Lib.hid kG6
              have lG6 := lt_of_block kG6
              have hne : ¬ G = w6.heap.size := by omega
              have hne2 : ¬ w6.heap.size = G := by omega
              clear hk6 hs6 kG6
              obtain ⟨cc1, cc2, cc3, cc4, cc5, cc6, cc7, cc8⟩ := hm2
              have hGw : w3.heap.size ≤ G := Nat.le_of_eq HG.out.symm
              have HGY := Lib.hid (show Y G by rw [HG.out]; exact hY1)
              have lG5 : G < w5.heap.size := Nat.lt_of_lt_of_le (lt_of_block HBX.out) HB5.out.size
              have hw3 : w.heap.size ≤ w3.heap.size := HS3.out.1.size
              have hnG6 : ¬ S6 G := fun hs => hnG (HS6.out.2 G lG5 hs)
              go_wp2
              refine ⟨⟨k + 1, s', S6, by omega, by go_num, by rw [HFT.out]; exact HPS.out, (HK6.out.local G (.inr HGY.out) hnG6 (chgS _ _ _ _ _)).below ((Below.refl _ _).alloc (Nat.le_refl _) _), ?_, ?_, hnG6, ?_, ?_⟩, by simp [intOf]; omega⟩
              · have T1 := (HST.out.trans (Stp.below HB5.out)).trans HS6.out
                exact Stp.trans ⟨T1.1.then (chgS _ _ _ _ _) (fun i hi e => by omega), T1.2⟩ (Stp.below ((Below.refl _ _).alloc (Nat.le_refl _) _))
              · have T1 := (HST4.out.trans (Stp.below HB5.out)).trans HS6.out
                exact Stp.trans ⟨T1.1.then (chgS _ _ _ _ _) (fun i hi e => by omega), T1.2⟩ (Stp.below ((Below.refl _ _).alloc (Nat.le_refl _) _))
              · rw [(P.piece_tx HPS.out).2.1, List.length_append, hpl]
                rfl
              · rw [HSM1.out]
                exact alloc_old (blkS KG6.out _ _ _) _
          · obtain rfl : k = N := by omega
            rw [HN.out, List.take_length] at hfold hbox
            have HNEW := Lib.hid (show P.leafW C.img C.np false n _ st = some (P.smOf l, sk) from by rw [HSM.out, hfold]; rfl)
            have HWK := Lib.hid hwk
            have HST := Lib.hid hst
            have hk0 : wr.heap[w.heap.size]? = _ := Wk.apart hst4 K03.out (hnS _ (Nat.le_refl _))
            have gG := cell_blk hbox
            have f0 := free_blk hk0
            have g0 := cell_blk hk0
            have HK0 := Lib.hid hk0
            have hnS0 : ¬ Sk w.heap.size := fun hs => hnS _ (Nat.le_refl _) (hst4.2 _ (by have := lt_of_block K03.out; omega) hs)
            clear hwk hst hst4 hbox hk0 hfold
            go_wp2
            generalize hW2 : World.setCell _ ⟨w.heap.size, 2, none⟩ _ = W2
            have hc2 : Chg (fun k => k = w.heap.size) wr W2 := by
              rw [← hW2]
              exact chgS _ _ _ _ _
            have cl2 := cell_blk (show W2.heap[w.heap.size]? = some (.cells #[.int .i64 (P.smOf l).p, .int .i64 (P.smOf l).b, .int .i64 (P.smOf l).l] 158 (0, 0)) by rw [← hW2]; exact blkS HK0.out _ _ _)
            have hfin := (HWK.out.local w.heap.size (.inl (.inr hX1)) hnS0 hc2).unlay.unlay
            exact bodyPost_ret (v := .agg #[.int .i64 (P.smOf l).p, .int .i64 (P.smOf l).b, .int .i64 (P.smOf l).l]) (by simp [results, Tryz.results90, go_sem, cl2]) rfl (.inl ⟨_, Sk, HNEW.out, rfl, hfin, ⟨HST.out.1.then hc2 (fun i hi e => by omega), HST.out.2⟩⟩)
end Go.Proofs.YtnjpaanjgbfbaaaGreat
