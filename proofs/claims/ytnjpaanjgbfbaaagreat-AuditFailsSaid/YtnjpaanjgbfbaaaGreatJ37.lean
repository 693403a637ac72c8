/- The reference's walker: an inner page; tree at any level. -/
import Derived.Test.YtnjpaanjgbfbaaaGreatJ35
import Derived.Test.YtnjpaanjgbfbaaaGreatJ36
namespace Go.Proofs.YtnjpaanjgbfbaaaGreat
set_option linter.unusedVariables false
set_option linter.unusedSimpArgs false
open Go.RowKit

attribute [local irreducible] wpStill wpQuiet in
set_option maxRecDepth 100000 in
set_option maxHeartbeats 6400000 in
theorem rtree_inner (C : RC) (vS : Value) (lv lvl : Nat) (hlv : lvl = lv + 1) (hl9 : lv < 1000) (IH : TreeIH C vS lv) (S : Nat → Prop) (st : P.St) (n : Nat) (root : Bool) (w : World) (h : RW C S w st vS false) (hn : n < 1000000) (ht : TxOk C.img st) (hps : st.ps.length ≤ 20 * P.cnt C.np st) (hf : P.free? C.np st n = true) :
    Calls Tryz.prog 47 #[.pointer (some ⟨C.q, 0, none⟩), .int .i64 (n : Int), .int .i64 (lvl : Int), .bool root] w (RSend C S vS (P.below C.img C.np true (lv + 1) n root st) w) := by
  have hspec : P.below C.img C.np true (lv + 1) n root st = if P.kdErr (P.pg C.img n) = 0 ∧ P.kdV (P.pg C.img n) = (lvl : Int) ∧ 2 ≤ (P.kdL (P.pg C.img n)).length ∧ (root = true ∨ 6 ≤ (P.kdL (P.pg C.img n)).length) then (P.kdL (P.pg C.img n)).foldlM (P.kidStep (P.below C.img C.np true lv)) (⟨0, 0, 0⟩, st.hit n 2) else none := by
    rw [P.below, hlv]
    by_cases hr : P.kdErr (P.pg C.img n) = 0 ∧ P.kdV (P.pg C.img n) = ((lv + 1 : Nat) : Int) ∧ 2 ≤ (P.kdL (P.pg C.img n)).length ∧ (root = true ∨ 6 ≤ (P.kdL (P.pg C.img n)).length)
    · rw [if_pos hr, if_pos ⟨hf, hr⟩]
    · rw [if_neg hr, if_neg (fun e => hr e.2)]
  obtain ⟨w0, hw0⟩ : ∃ w0, w0 = w.alloc (.cells #[.int .i64 0, .int .i64 0, .int .i64 0] 118) := ⟨_, rfl⟩
  have hb0 : Below w.heap.size w w0 := by rw [hw0]; exact (Below.refl _ w).alloc (Nat.le_refl _) _
  have k0 : w0.heap[w.heap.size]? = some (.cells #[.int .i64 0, .int .i64 0, .int .i64 0] 118 (0, 0)) := by rw [hw0]; exact alloc_new _ _ _ rfl
  have hnS : ∀ j, w.heap.size ≤ j → ¬ S j := fun j hj hs => by have := h.sets _ hs; omega
  have HP := Lib.hid (page_yes C S st vS n 2 116 w0 (h.below hb0) hn (by omega) (by decide) (by decide) ((pgOk_free (by decide)).2 hf))
  have HB0 := Lib.hid hb0
  have K0 := Lib.hid k0
  have HGE := Lib.hid h.ge
  have hcn := P.cnt_le C.np st
  have hnp := h.okc.2.2.2.2.2.2.1
  have hfew := cnt_keep C.np st n 2 (by omega) hf
  have HFEW := Lib.hid (show (st.hit n 2).ps.length ≤ 20 * P.cnt C.np (st.hit n 2) by rw [hfew]; show st.ps.length ≤ _; omega)
  have HTX := Lib.hid (show TxOk C.img (st.hit n 2) from txok_hit ht (by omega))
  obtain ⟨SP, hSP⟩ : ∃ SP, SP = P.below C.img C.np true (lv + 1) n root st := ⟨_, rfl⟩
  rw [← hSP] at hspec ⊢
  have HIH := Lib.hid IH
  have HLV := Lib.hid hlv
  have lv1 : (1 : Int) ≤ (lvl : Int) := by omega
  have lv2 : (lvl : Int) ≤ 1000 := by omega
  have lv3 : (lvl : Int) - 1 = (lv : Int) := by omega
  have lv4 : ((lvl : Int) == 0) = false := by simp; omega
  clear h hb0 k0 hf hps hcn hfew hSP IH hlv ht
  have HALL := Lib.hid (fun e => P.kdL_all (b := P.pg C.img n) e)
  obtain ⟨bs, hbs⟩ : ∃ bs, bs = P.pg C.img n := ⟨_, rfl⟩
  rw [← hbs] at HALL hspec HP
  have HSP := Lib.hid hspec
  clear hbs hspec
  go_enter Tryz.func47, Tryz.ntmps47
  go_wp2_with fail
  rw [← hw0]
  clear hw0
  refine HP.out.mono ?_
  rintro e w1 ⟨p, cp, rfl, hcp, hr1, hpB, hk1, hs1⟩
  obtain ⟨vP, vT, hq⟩ := hk1.cells
  have g : w1.cell? ⟨C.q, 16, none⟩ = some (.bool false) := cell_blk hq 16
  have HL := Lib.hid (rkids_fun (some p) 256 cp bs w1 hr1 hcp)
  have HK1 := Lib.hid hk1
  have HS1 := Lib.hid hs1
  have K1 := Lib.hid (Wk.apart hs1 K0.out (hnS _ (Nat.le_refl _)))
  clear hk1 hs1 hq hr1
  generalize P.kdErr bs = E at *
  generalize P.kdL bs = l at *
  generalize P.kdV bs = V at *
  obtain ⟨N, hN⟩ : ∃ N, N = l.length := ⟨_, rfl⟩
  rw [← hN] at HSP
  have HN := Lib.hid hN
  go_wp2_with fail
  refine HL.out.mono ?_
  rintro e w3 ⟨v3, rfl, ho3, hb3⟩
  obtain ⟨a3, c3, rfl, hr3, hc3, ha3, -⟩ := ho3.form
  rw [← hN] at hr3 hc3 ha3 ⊢
  have HK3 := Lib.hid (HK1.out.below hb3)
  have HS3 := Lib.hid (((Stp.below HB0.out).trans HS1.out).trans (Stp.below hb3) : Stp S w S w3)
  have K03 := Lib.hid ((hb3.block _ (lt_of_block K1.out)).trans K1.out)
  have HR3 := Lib.hid (show RQ w3 a3 N l from hr3)
  have HA3 := Lib.hid (show ∀ p, a3 = some p → ¬ S p.block ∧ C.B ≤ p.block ∧ p.block < w3.heap.size from fun p e => by
    have h1 := (ha3 p e).1
    have h4 := (ha3 p e).2.1
    have h2 := HB0.out.size
    have h3 := HGE.out
    have h5 := HS1.out.1.size
    exact ⟨hnS _ (by omega), by omega, h4⟩)
  obtain ⟨vP, vT, hq⟩ := HK3.out.cells
  have gq := cell_blk hq
  have fq := free_blk hq
  unfold rwC at gq
  have HFL := Lib.hid (HK3.out.flag true)
  have hq3 : ¬ w.heap.size = C.q := fun e => hnS _ (Nat.le_refl _) (e ▸ HK3.out.2.2.1.1)
  clear hq ho3 hr3 ha3 hb3 hN g
  obtain ⟨bd0, hbd0⟩ : ∃ bd0 : Bool, bd0 = decide (¬ (E = 0 ∧ V = (lvl : Int) ∧ 2 ≤ N ∧ (root = true ∨ 6 ≤ N))) := ⟨_, rfl⟩
  have HBD := Lib.hid hbd0
  clear hbd0
  go_upto_region 7 with (fail)
  go_cut [56] from 13 (fun c wx => c = .bool bd0 ∧ w3 = wx)
  case first =>
    by_cases hE : E = 0
    · subst hE
      by_cases hV : V = (lvl : Int)
      · have q0 : (V != (lvl : Int)) = false := by simpa using hV
        by_cases h2 : 2 ≤ N
        · have q3 : decide ((N : Int) < 2) = false := decide_eq_false (by omega)
          have q4 : ¬ (N : Int) < 2 := by omega
          cases root
          · by_cases h10 : N < 6
            · have q1 : decide ((N : Int) < 6) = true := decide_eq_true (by omega)
              have q2 : (N : Int) < 6 := by omega
              obtain rfl : bd0 = true := by rw [HBD.out]; simp; omega
              clear h10 hV
              go_wp2
              go_meet
              case rel => exact ⟨rfl, rfl⟩
            · have q1 : decide ((N : Int) < 6) = false := decide_eq_false (by omega)
              have q2 : ¬ (N : Int) < 6 := by omega
              obtain rfl : bd0 = false := by rw [HBD.out]; simp [hV]; omega
              clear h10 hV
              go_wp2
              go_meet
              case rel => exact ⟨rfl, rfl⟩
          · obtain rfl : bd0 = false := by rw [HBD.out]; simp [hV, h2]
            clear hV
            go_wp2
            go_meet
            case rel => exact ⟨rfl, rfl⟩
        · have q3 : decide ((N : Int) < 2) = true := decide_eq_true (by omega)
          have q4 : (N : Int) < 2 := by omega
          obtain rfl : bd0 = true := by rw [HBD.out]; simp; omega
          clear hV h2
          go_wp2
          go_meet
          case rel => exact ⟨rfl, rfl⟩
      · have q0 : (V != (lvl : Int)) = true := by simpa using hV
        obtain rfl : bd0 = true := by rw [HBD.out]; simp [hV]
        clear hV
        go_wp2
        go_meet
        case rel => exact ⟨rfl, rfl⟩
    · have q1 : (E != 0) = true := by simpa using hE
      obtain rfl : bd0 = true := by rw [HBD.out]; simp [hE]
      clear hE
      go_wp2
      go_meet
      case rel => exact ⟨rfl, rfl⟩
  case rest =>
  obtain ⟨rfl, rfl⟩ := hcut
  have HNO := Lib.hid (fun (e : bd0 = true) => show SP = none by
    rw [HSP.out, if_neg]
    rw [HBD.out] at e
    exact of_decide_eq_true e)
  have HYES := Lib.hid (fun (e : bd0 = false) => show E = 0 ∧ V = (lvl : Int) ∧ 2 ≤ N ∧ (root = true ∨ 6 ≤ N) by
    rw [HBD.out] at e
    exact Decidable.not_not.1 (of_decide_eq_false e))
  go_upto_if 56 with (fail)
  go_cut [12] from 13 (fun s12 wx => RW C S wx (st.hit n 2) vS bd0 ∧ Stp S w3 S wx)
  case first =>
    cases bd0
    · go_wp2
      go_meet
      case rel => exact ⟨HK3.out, Stp.refl _ _⟩
    · go_wp2
      go_meet
      case rel => exact ⟨HFL.out.1, HFL.out.2⟩
  case rest =>
    obtain ⟨hk4, hs4⟩ := hcut
    have hwG := hs4.1.size
    have K04 := Lib.hid (Wk.apart hs4 K03.out (hnS _ (Nat.le_refl _)))
    have HR4 := Lib.hid (RQ.stp (l := l) (n := N) HR3.out hs4 (fun p e => (HA3.out p e).1))
    have hnSc : ∀ j, wc.heap.size ≤ j → ¬ S j := fun j hj hs => by have := hk4.sets _ hs; omega
    obtain ⟨w5, hw5⟩ : ∃ w5, w5 = wc.alloc (.cells #[.int .i64 0, .int .i64 0, .int .i64 0] 118) := ⟨_, rfl⟩
    have hb5 : Below wc.heap.size wc w5 := by rw [hw5]; exact (Below.refl _ wc).alloc (Nat.le_refl _) _
    have k5 : w5.heap[wc.heap.size]? = some (.cells #[.int .i64 0, .int .i64 0, .int .i64 0] 118 (0, 0)) := by rw [hw5]; exact alloc_new _ _ _ rfl
    have H5 := Lib.hid (hk4.below hb5)
    have HB5 := Lib.hid hb5
    have HS4 := Lib.hid hs4
    have K5 := Lib.hid k5
    have lc := lt_of_block K04.out
    have hGB : C.B ≤ wc.heap.size := hk4.ge
    obtain ⟨G, hG⟩ : ∃ G, G = wc.heap.size := ⟨_, rfl⟩
    clear hk4 hs4 hb5 k5 gq fq
    go_wp2_with fail
    rw [← hw5]
    clear hw5
    rw [← hG]
    have HG := Lib.hid hG
    have hnSG : ¬ S G := by rw [hG]; exact hnSc _ (Nat.le_refl _)
    have hGB : C.B ≤ G := by omega
    have hG0 : ¬ w.heap.size = G := by omega
    rw [← hG] at hwG
    clear hG hnSc
    go_loopw [14] (fun i wr => ∃ (k : Nat) (bd : Bool) (x y z : Int) (sk : P.St) (Sk : Nat → Prop), k ≤ N ∧ i = .int .i64 k ∧ (bd = false → bd0 = false ∧ sk.ps.length ≤ 20 * P.cnt C.np sk ∧ (l.take k).foldlM (P.kidStep (P.below C.img C.np true lv)) (⟨0, 0, 0⟩, st.hit n 2) = some (⟨x, y, z⟩, sk) ∧ (0 ≤ x ∧ x ≤ 1048576 * k ∧ 0 ≤ y ∧ y ≤ 1048576 * k ∧ 0 ≤ z ∧ z ≤ 1048576 * k)) ∧ (bd = true → SP = none) ∧
      RW C Sk wr sk vS bd ∧ Stp S wc Sk wr ∧ ¬ Sk G ∧ wr.heap[G]? = some (.cells #[.int .i64 x, .int .i64 y, .int .i64 z] 118 (0, 0))) (fun i _ => N - (intOf i).toNat)
    case atStart => exact ⟨0, bd0, 0, 0, 0, st.hit n 2, S, by omega, rfl, fun e => ⟨e, HFEW.out, rfl, by simp⟩, HNO.out, H5.out, Stp.below HB5.out, hnSG, by rw [HG.out]; exact K5.out⟩
    case round =>
      obtain ⟨k, bd, x, y, z, sk, Sk, hk, rfl, hg, hb, hwk, hst, hnG, hbox⟩ := hrel
      have HWK := Lib.hid hwk
      have HST := Lib.hid hst
      have HBX := Lib.hid hbox
      obtain ⟨vP5, vT5, hq5⟩ := hwk.cells
      have gq5 := cell_blk hq5 16
      have gq5' : wr.cell? ⟨C.q, 16, none⟩ = some (.bool bd) := gq5
      clear gq5
      by_cases hgo : bd = false ∧ k < N
      · obtain ⟨rfl, hlt⟩ := hgo
        obtain ⟨hb0', hpl, hfold, s1, s2, s3, s4, s5, s6⟩ := hg rfl
        obtain ⟨hE0, hroot⟩ := HYES.out hb0'
        have hall := HALL.out hE0
        have hkl : k < l.length := by have := HN.out; omega
        obtain ⟨nn, kb, kc, kd, hx⟩ := mayK_nat l[k] (hall.2.1 k hkl)
        have hm := hall.2.1 k hkl
        rw [hx] at hm
        have hst0 : Stp S wc Sk wr := hst
        obtain ⟨pa, rfl, e1, e2, e3, e4⟩ := RQ.at (RQ.stp (l := l) (n := N) HR4.out hst0 (fun p e => (HA3.out p e).1)) k hkl
        rw [hx] at e1 e2 e3 e4
        simp only at e1 e2 e3 e4
        have hft := P.foldlM_take (P.kidStep (P.below C.img C.np true lv)) l (⟨0, 0, 0⟩, st.hit n 2) k hkl
        rw [hfold, hx] at hft
        have hlc : l.length ≤ 12 := hall.1
        have hm2 := (P.Q.mayK_iff _).1 hm
        simp only at hm2
        have HFT := Lib.hid hft
        have HX := Lib.hid hx
        have HSPF := Lib.hid (show SP = l.foldlM (P.kidStep (P.below C.img C.np true lv)) (⟨0, 0, 0⟩, st.hit n 2) by rw [HSP.out, if_pos ⟨hE0, hroot⟩])
        have HTK := Lib.hid (show TxOk C.img sk from (txok_kids hfold HTX.out))
        have HPC := Lib.hid (HIH.out Sk sk nn false wr HWK.out (by omega) HTK.out hpl)
        have hAG : pa.block < G := Nat.lt_of_lt_of_le (HA3.out pa rfl).2.2 hwG
        have i0 : (0 : Int) ≤ (k : Int) := by omega
        have i1 : (k : Int) < (N : Int) := by omega
        clear hft hfold hwk hst hbox hx hg hb hq5 hroot hE0
        go_wp2_with fail
        refine HPC.out.mono ?_
        intro e w6 hpe
        obtain ⟨yp, yb, yl, bd6, sk6, S6, rfl, g6, b6, hk6, hs6⟩ : ∃ (yp yb yl : Int) (bd6 : Bool) (sk6 : P.St) (S6 : Nat → Prop), e = .returned (.agg #[.int .i64 yp, .int .i64 yb, .int .i64 yl]) ∧ (bd6 = false → P.below C.img C.np true lv nn false sk = some (⟨yp, yb, yl⟩, sk6)) ∧ (bd6 = true → SP = none) ∧ RW C S6 w6 sk6 vS bd6 ∧ Stp Sk wr S6 w6 := by
          rcases hpe with ⟨⟨xp, xb, xl⟩, st', S', h1, h2, h3, h4⟩ | ⟨h1, a, b, c, st', S', h2, h3, h4⟩
          · exact ⟨xp, xb, xl, false, st', S', h2, fun _ => h1, (fun e => by cases e), h3, h4⟩
          · refine ⟨a, b, c, true, st', S', h2, (fun e => by cases e), fun _ => ?_, h3, h4⟩
            rw [HSPF.out]
            refine P.foldlM_fail _ _ _ (k + 1) ?_
            rw [HFT.out]
            simp only [Option.bind_some]
            unfold P.kidStep
            simp only [Int.toNat_natCast]
            rw [h1]
            rfl
        have hs06 : Stp S wc S6 w6 := HST.out.trans hs6
        have kG6 := Wk.apart hs6 HBX.out hnG
        have hnG6 : ¬ S6 G := fun hs => hnG (hs6.2 G (lt_of_block HBX.out) hs)
        obtain ⟨w7, hw7⟩ : ∃ w7, w7 = w6.alloc (.cells #[.int .i64 yp, .int .i64 yb, .int .i64 yl] 118) := ⟨_, rfl⟩
        have hb7 : Below w6.heap.size w6 w7 := by rw [hw7]; exact (Below.refl _ w6).alloc (Nat.le_refl _) _
        have k7 : w7.heap[w6.heap.size]? = some (.cells #[.int .i64 yp, .int .i64 yb, .int .i64 yl] 118 (0, 0)) := by rw [hw7]; exact alloc_new _ _ _ rfl
        have kG7 := (hb7.block _ (lt_of_block kG6)).trans kG6
        obtain ⟨pa', e', -, f2, f3, f4⟩ := RQ.at (RQ.stp (l := l) (n := N) HR4.out (hs06.trans (Stp.below hb7)) (fun p e => (HA3.out p e).1)) k hkl
        cases e'
        rw [HX.out] at f2 f3 f4
        simp only at f2 f3 f4
        have gG := cell_blk kG7
        have fG := free_blk kG7
        have g7 := cell_blk k7
        obtain ⟨vP7, vT7, hq7⟩ := (hk6.below hb7).cells
        have gq7 : w7.cell? ⟨C.q, 16, none⟩ = some (.bool bd6) := cell_blk hq7 16
        have fq7 := free_blk hq7
        have hne1 : ¬ C.q = G := by have := HWK.out.okc.1; omega
        have hne2 : ¬ G = C.q := fun e => hne1 e.symm
        have hG6 : G < w6.heap.size := lt_of_block kG6
        have hne3 : ¬ w6.heap.size = G := by omega
        have hne4 : ¬ w6.heap.size = C.q := by have := HWK.out.okc.1; omega
        have G6 := Lib.hid g6
        have B6 := Lib.hid b6
        have HK7 := Lib.hid (hk6.below hb7)
        have HS7 := Lib.hid (hs06.trans (Stp.below hb7))
        have KG7 := Lib.hid kG7
        have HFL7 := Lib.hid (HK7.out.flag true)
        obtain ⟨kk1, kk2, kk3, kk4, kk5, kk6, kk7⟩ := hm2
        clear hpe g6 b6 hk6 hs6 kG6 kG7 hs06 gq5' hb7 k7 hq7 e1 e2 e3 e4
        go_wp2_with fail
        rw [← hw7]
        clear hw7
        have HRC := Lib.hid (fun (q1 : ¬ (yp = kb ∧ yb = kc ∧ yl = kd)) => show SP = none from by
          cases hbd6 : bd6
          · rw [HSPF.out]
            refine P.foldlM_fail _ _ _ (k + 1) ?_
            rw [HFT.out]
            simp only [Option.bind_some]
            unfold P.kidStep
            simp only [Int.toNat_natCast]
            rw [G6.out hbd6]
            simp only [Option.bind_some]
            rw [if_neg]
            intro e
            injection e with e1 e2 e3
            exact q1 ⟨e1, e2, e3⟩
          · exact B6.out hbd6)
        have HGW := Lib.hid (show G = wc.heap.size from HG.out)
        have HEND := Lib.hid (fun (wd : World) (bdx : Bool) (r1 : RW C S6 wd sk6 vS bdx) (r2 : Stp S wc S6 wd) (r3 : wd.heap[G]? = some (.cells #[.int .i64 x, .int .i64 y, .int .i64 z] 118 (0, 0))) (a b c : Int) =>
          (show RW C S6 (((wd.setCell ⟨G, 0, none⟩ (.int .i64 a)).setCell ⟨G, 1, none⟩ (.int .i64 b)).setCell ⟨G, 2, none⟩ (.int .i64 c)) sk6 vS bdx ∧ Stp S wc S6 (((wd.setCell ⟨G, 0, none⟩ (.int .i64 a)).setCell ⟨G, 1, none⟩ (.int .i64 b)).setCell ⟨G, 2, none⟩ (.int .i64 c)) ∧
              (((wd.setCell ⟨G, 0, none⟩ (.int .i64 a)).setCell ⟨G, 1, none⟩ (.int .i64 b)).setCell ⟨G, 2, none⟩ (.int .i64 c)).heap[G]? = some (.cells #[.int .i64 a, .int .i64 b, .int .i64 c] 118 (0, 0)) from
            ⟨r1.local G hGB hnG6 (chgS wd G _ _ _), ⟨r2.1.then (chgS wd G _ _ _) (fun i hi e => by have := HGW.out; omega), r2.2⟩, blkS r3 _ _ _⟩))
        have HDR := Lib.hid (fun nq : Nat => (show Below w7.heap.size w7 (w7.drewN nq) from ⟨rfl, rfl, rfl, Nat.le_refl _, fun _ _ => rfl⟩))
        have HE1 := Lib.hid (fun (nq : Nat) (a b c : Int) => HEND.out (w7.drewN nq) bd6 (HK7.out.below (HDR.out nq)) (HS7.out.trans (Stp.below (HDR.out nq))) KG7.out a b c)
        have HE2 := Lib.hid (fun (nq : Nat) (a b c : Int) => HEND.out ((w7.drewN nq).setCell ⟨C.q, 16, none⟩ (.bool true)) true ((HK7.out.below (HDR.out nq)).flag true).1 ((HS7.out.trans (Stp.below (HDR.out nq))).trans ((HK7.out.below (HDR.out nq)).flag true).2) (blk_other KG7.out ⟨C.q, 16, none⟩ hne2 _) a b c)
        by_cases c1 : yp = kb
        · have q1 : (yp != kb) = false := by simpa using c1
          by_cases c2 : yb = kc
          · have q2 : (yb != kc) = false := by simpa using c2
            by_cases c3 : yl = kd
            · have q3 : (yl != kd) = false := by simpa using c3
              have HC := Lib.hid (show yp = kb ∧ yb = kc ∧ yl = kd from ⟨c1, c2, c3⟩)
              clear c1 c2 c3
              go_quiet (fail)
              go_wp2
              obtain ⟨r1, r2, r3⟩ := HE1.out _ (wrap64 (x + yp)) (wrap64 (y + yb)) (wrap64 (z + yl))
              refine ⟨⟨k + 1, bd6, _, _, _, sk6, S6, by omega, by go_num, fun e => ⟨hb0', ?_, ?_, ?_⟩, B6.out, r1, r2, hnG6, r3⟩, by simp [intOf]; omega⟩
              · have h1 := P.below_few lv _ _ _ _ (G6.out e)
                simp only at h1
                omega
              · obtain ⟨rfl, rfl, rfl⟩ := HC.out
                rw [HFT.out]
                simp only [Option.bind_some]
                rw [P.kid_of (z := (⟨yp, yb, yl⟩, sk6)) (k := ⟨(nn : Int), yp, yb, yl⟩) (G6.out e) rfl]
                rw [IntWalk.wrap64_in _ (by omega), IntWalk.wrap64_in _ (by omega), IntWalk.wrap64_in _ (by omega)]
                rfl
              · obtain ⟨rfl, rfl, rfl⟩ := HC.out
                rw [IntWalk.wrap64_in _ (by omega), IntWalk.wrap64_in _ (by omega), IntWalk.wrap64_in _ (by omega)]
                omega
            · have q3 : (yl != kd) = true := by simpa using c3
              have HC := Lib.hid (HRC.out (fun e => c3 e.2.2))
              clear c1 c2 c3
              go_quiet (fail)
              go_wp2
              obtain ⟨r1, r2, r3⟩ := HE2.out _ (wrap64 (x + yp)) (wrap64 (y + yb)) (wrap64 (z + yl))
              exact ⟨⟨k + 1, true, _, _, _, sk6, S6, by omega, by go_num, (fun e => by cases e), fun _ => HC.out, r1, r2, hnG6, r3⟩, by simp [intOf]; omega⟩
          · have q2 : (yb != kc) = true := by simpa using c2
            have HC := Lib.hid (HRC.out (fun e => c2 e.2.1))
            clear c1 c2
            go_quiet (fail)
            go_wp2
            obtain ⟨r1, r2, r3⟩ := HE2.out _ (wrap64 (x + yp)) (wrap64 (y + yb)) (wrap64 (z + yl))
            exact ⟨⟨k + 1, true, _, _, _, sk6, S6, by omega, by go_num, (fun e => by cases e), fun _ => HC.out, r1, r2, hnG6, r3⟩, by simp [intOf]; omega⟩
        · have q1 : (yp != kb) = true := by simpa using c1
          have HC := Lib.hid (HRC.out (fun e => c1 e.1))
          clear c1
          go_quiet (fail)
          go_wp2
          obtain ⟨r1, r2, r3⟩ := HE2.out _ (wrap64 (x + yp)) (wrap64 (y + yb)) (wrap64 (z + yl))
          exact ⟨⟨k + 1, true, _, _, _, sk6, S6, by omega, by go_num, (fun e => by cases e), fun _ => HC.out, r1, r2, hnG6, r3⟩, by simp [intOf]; omega⟩
      · have hcase : (bd = false ∧ k = N) ∨ (bd = true ∧ k < N) ∨ (bd = true ∧ k = N) := by
          cases bd
          · exact .inl ⟨rfl, by
              rcases Nat.lt_or_ge k N with h | h
              · exact absurd ⟨rfl, h⟩ hgo
              · omega⟩
          · rcases Nat.lt_or_ge k N with h | h
            · exact .inr (.inl ⟨rfl, h⟩)
            · exact .inr (.inr ⟨rfl, by omega⟩)
        have hk0 : wr.heap[w.heap.size]? = some (.cells #[.int .i64 0, .int .i64 0, .int .i64 0] 118 (0, 0)) := Wk.apart hst K04.out (hnS _ (Nat.le_refl _))
        have gG := cell_blk hbox
        have f0 := free_blk hk0
        have g0 := cell_blk hk0
        have HK0 := Lib.hid hk0
        have hnS0 : ¬ Sk w.heap.size := fun hs => hnS _ (Nat.le_refl _) (hst.2 _ (lt_of_block K04.out) hs)
        have HSPN := Lib.hid (show bd = false → SP = some (⟨x, y, z⟩, sk) from fun e => by
          obtain ⟨hb0', -, hfold, -⟩ := hg e
          obtain ⟨hE0, hroot⟩ := HYES.out hb0'
          have hkN : k = N := by
            rcases Nat.lt_or_ge k N with h | h
            · exact absurd ⟨e, h⟩ hgo
            · omega
          rw [HSP.out, if_pos ⟨hE0, hroot⟩]
          rw [hkN, HN.out, List.take_length] at hfold
          exact hfold)
        have HSPB := Lib.hid hb
        have HWB : C.B ≤ w.heap.size := HGE.out
        clear hwk hst hbox hk0 hq5 hg hb hgo
        have HFIN := Lib.hid (fun (W2 : World) (hc2 : Chg (fun k => k = w.heap.size) wr W2) => (show RSend C S vS SP w (.returned (.agg #[.int .i64 x, .int .i64 y, .int .i64 z])) W2 from by
          have hw := HWK.out.local w.heap.size HWB hnS0 hc2
          have hs0 : Stp S w Sk wr := (HS3.out.trans HS4.out).trans HST.out
          have hs2 : Stp S w Sk W2 := ⟨hs0.1.then hc2 (fun i hi e => by omega), hs0.2⟩
          cases bd
          · exact .inl ⟨_, _, Sk, HSPN.out rfl, rfl, hw, hs2⟩
          · exact .inr ⟨HSPB.out rfl, x, y, z, _, Sk, rfl, hw, hs2⟩))
        rcases hcase with ⟨rfl, rfl⟩ | ⟨rfl, hlt⟩ | ⟨rfl, rfl⟩
        all_goals
          go_wp2
          generalize hW2 : World.setCell _ ⟨w.heap.size, 2, none⟩ _ = W2
          have hc2 : Chg (fun k => k = w.heap.size) wr W2 := by
            rw [← hW2]
            exact chgS _ _ _ _ _
          have cl2 := cell_blk (show W2.heap[w.heap.size]? = some (.cells #[.int .i64 x, .int .i64 y, .int .i64 z] 118 (0, 0)) by rw [← hW2]; exact blkS HK0.out _ _ _)
          exact bodyPost_ret (v := .agg #[.int .i64 x, .int .i64 y, .int .i64 z]) (by simp [results, Tryz.results47, go_sem, cl2]) rfl (HFIN.out W2 hc2)
theorem rtree_any (C : RC) (vS : Value) (lv : Nat) (hl9 : lv < 1000) : TreeIH C vS lv := by
  induction lv with
  | zero =>
    intro S st n root w h hn ht hps
    rcases hf : P.free? C.np st n with _ | _
    · exact rtree_no C vS 0 S st n root w h hn hf
    · exact rtree_leaf C vS S st n root w h hn ht hps hf
  | succ lv ih =>
    intro S st n root w h hn ht hps
    rcases hf : P.free? C.np st n with _ | _
    · exact rtree_no C vS (lv + 1) S st n root w h hn hf
    · exact rtree_inner C vS lv (lv + 1) rfl (by omega) (ih (by omega)) S st n root w h hn ht hps hf
end Go.Proofs.YtnjpaanjgbfbaaaGreat
