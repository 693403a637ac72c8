/- The law of chapter 12: leaves of pieces laid into an image. -/
import Derived.Test.YtnjpaanjgbfbaaaGreatJ47
namespace Go.Proofs.YtnjpaanjgbfbaaaGreat
set_option linter.unusedVariables false
set_option linter.unusedSimpArgs false
open Go.RowKit

set_option maxRecDepth 100000 in
set_option maxHeartbeats 6400000 in
theorem grow_any (B g L c A : Nat) (img : List UInt8) (l : List P.Q) (a : Option Addr) (m ca : Nat) (w : World) (h : ImgAt w B g L c img) (hr : RQ w a m l) (hne : ∀ q, a = some q → q.block ≠ g) (hL : L ≤ 1048576)
    (hm : m ≤ 150) (h0 : 0 < m) (hca : m ≤ ca) (hq : ∀ q ∈ l, (0 ≤ q.c ∧ q.c ≤ 1000) ∧ 0 ≤ q.d ∧ q.d ≤ 1000) (hA : A ≤ 2000) (hAL : (A + 10) * 256 ≤ L) :
    Calls Tryz.prog 22 #[.slice (some ⟨g, 0, none⟩) L c, .slice a m ca, .int .i64 (A : Int)] w (GrowEnd B g L c A img l w) := by
  have hln := hr.len
  obtain ⟨pa, rfl, -⟩ := hr.at 0 (by omega)
  have hpl : pa.block < w.heap.size := RV.lt hr (by rw [qCs_length]; omega) pa rfl
  have hpg := hne pa rfl
  have H := Lib.hid h
  have HR := Lib.hid hr
  have HQ := Lib.hid hq
  have HLN := Lib.hid hln
  have hgB := h.ge.2
  have HAL := Lib.hid hAL
  have hz : ((m : Int) == 0) = false := by simp; omega
  clear h hr hne hq hAL
  go_enter Tryz.func22, Tryz.ntmps22
  go_wp2
  go_loopw [2, 9, 10] (fun at_ v i wr => ∃ (n : Nat) (G : List (List P.Q)), n ≤ m ∧ i = .int .i64 n ∧ Grp l n G ∧ at_ = .int .i64 ((A + G.length : Nat) : Int) ∧ (∃ a n c, v = .slice a n c) ∧ OV wr w.heap.size 92 4 v G.length (qCs (kidsOf A G)) ∧ ImgAt wr B g L c (layN img A (G.map P.leafB)) ∧ Chg (fun q => q = g) w wr) (fun _ v i _ => m - (intOf i).toNat)
  case atStart => exact ⟨0, [], by omega, rfl, .nil, rfl, ⟨_, _, _, rfl⟩, OV.nil _ _ _ _, H.out, Chg.refl _ _⟩
  case round =>
    obtain ⟨n, G, hn, rfl, hG, rfl, ⟨av, nv, cv, rfl⟩, ho, him, hcr⟩ := hrel
    obtain rfl : G.length = nv := ho.len.symm
    have HO := Lib.hid ho
    have HIM := Lib.hid him
    have HCR := Lib.hid hcr
    have HG := Lib.hid hG
    have i0 : (0 : Int) ≤ (n : Int) := by omega
    by_cases hlt : n < m
    · have hgs : G.length ≤ 7 := hG.small (by omega) (by omega)
      obtain ⟨N, hN⟩ : ∃ N, N = gsz (m - n) := ⟨_, rfl⟩
      have hN1 := gsz_le (m - n)
      rw [← hN] at hN1
      have hG2 : Grp l (n + N) (G ++ [(l.drop n).take N]) := by
        have h := Grp.snoc hG (by omega : n < l.length)
        rw [hln, ← hN] at h
        exact h
      have HG2 := Lib.hid hG2
      obtain ⟨M, hM⟩ : ∃ M, M = A + G.length := ⟨_, rfl⟩
      rw [← hM]
      have HM := Lib.hid hM
      have hMb : (M : Int) ≤ 3000 := by omega
      clear ho him hcr hG hG2 hM
      have i1 : (n : Int) < (m : Int) := by omega
      go_upto_region 6 with (fail)
      obtain ⟨N1, hN1'⟩ : ∃ N1, N1 = min (m - n) 20 := ⟨_, rfl⟩
      obtain ⟨bd, hbd⟩ : ∃ bd, bd = decide (20 < m - n ∧ m - n < 30) := ⟨_, rfl⟩
      have HN := Lib.hid hN
      have HBD := Lib.hid hbd
      have HN1 := Lib.hid hN1'
      clear hN hbd hN1 hN1'
      go_cut [11] from 18 to 92 (fun x wx => x = .int .i64 (N1 : Int) ∧ wr = wx)
      case first =>
        have hN1 := HN1.out
        by_cases h20 : m - n ≤ 20
        · have q2 : (m : Int) - (n : Int) = (N1 : Int) := by omega
          have q3 : (N1 : Int) ≤ 20 := by omega
          clear h20 hN1
          go_wp2
          go_meet
          case rel => exact ⟨rfl, rfl⟩
        · have q3 : ¬ (m : Int) - (n : Int) ≤ 20 := by omega
          obtain rfl : N1 = 20 := by omega
          clear h20 hN1
          go_wp2
          go_meet
          case rel => exact ⟨rfl, rfl⟩
      case rest =>
      obtain ⟨rfl, rfl⟩ := hcut
      go_upto_region 7 with (fail)
      go_cut [41] from 18 to 92 (fun x wx => x = .bool bd ∧ wr = wx)
      case first =>
        have hN1 := HN1.out
        have hbd := HBD.out
        by_cases h20 : m - n ≤ 20
        · have q2 : (m : Int) - (n : Int) = (N1 : Int) := by omega
          obtain rfl : bd = false := by rw [hbd]; exact decide_eq_false (by omega)
          clear h20 hN1 hbd
          go_wp2
          go_meet
          case rel => exact ⟨rfl, rfl⟩
        · have q3 : (20 : Int) < (m : Int) - (n : Int) := by omega
          obtain rfl : N1 = 20 := by omega
          by_cases h30 : m - n < 30
          · have q4 : decide ((m : Int) - (n : Int) - 20 < 10) = true := decide_eq_true (by omega)
            obtain rfl : bd = true := by rw [hbd]; exact decide_eq_true (by omega)
            clear h20 hN1 hbd h30
            go_wp2
            go_meet
            case rel => exact ⟨rfl, rfl⟩
          · have q4 : decide ((m : Int) - (n : Int) - 20 < 10) = false := decide_eq_false (by omega)
            obtain rfl : bd = false := by rw [hbd]; exact decide_eq_false (by omega)
            clear h20 hN1 hbd h30
            go_wp2
            go_meet
            case rel => exact ⟨rfl, rfl⟩
      case rest =>
      obtain ⟨rfl, rfl⟩ := hcut
      go_upto_if 41 with (fail)
      go_cut [11] from 18 to 92 (fun x wx => x = .int .i64 (N : Int) ∧ wr = wx)
      case first =>
        have hN1 := HN1.out
        have hbd := HBD.out
        have hN := HN.out
        unfold gsz at hN
        cases bd
        · obtain rfl : N1 = N := by
            have h := of_decide_eq_false hbd.symm
            rw [hN]
            split <;> (try split) <;> omega
          clear hN1 hN hbd
          go_wp2
          go_meet
          case rel => exact ⟨rfl, rfl⟩
        · obtain rfl : N = 10 := by
            have h := of_decide_eq_true hbd.symm
            rw [hN, if_neg (by omega), if_pos (by omega)]
          clear hN1 hN hbd
          go_wp2
          go_meet
          case rel => exact ⟨rfl, rfl⟩
      case rest =>
        obtain ⟨rfl, rfl⟩ := hcut
        have hN1 := gsz_le (m - n)
        rw [← HN.out] at hN1
        clear HN1 HBD HN
        go_upto_region 10 with (fail)
        obtain ⟨wo, rfl⟩ : ∃ wo, wo = wr := ⟨_, rfl⟩
        obtain ⟨w1, hw1⟩ : ∃ w1, w1 = wo.alloc (.cells #[.int .i64 (M : Int), .int .i64 (N : Int), .int .i64 0, .int .i64 0] 92) := ⟨_, rfl⟩
        have hk1 : w1.heap[wo.heap.size]? = some (.cells #[.int .i64 (M : Int), .int .i64 (N : Int), .int .i64 0, .int .i64 0] 92 (0, 0)) := by rw [hw1]; exact alloc_new _ _ _ rfl
        have hb1 : Below wo.heap.size wo w1 := by rw [hw1]; exact (Below.refl _ wo).alloc (Nat.le_refl _) _
        rw [← hw1]
        obtain ⟨kb, hkb⟩ : ∃ kb, kb = wo.heap.size := ⟨_, rfl⟩
        rw [← hkb] at hk1 hb1 ⊢
        have HKB := Lib.hid hkb
        have HK1 := Lib.hid hk1
        have HB1 := Lib.hid hb1
        obtain ⟨X, hX⟩ : ∃ X, X = l.drop n := ⟨_, rfl⟩
        have HX := Lib.hid hX
        have hXl : X.length = m - n := by rw [hX, List.length_drop, hln]
        have HXL := Lib.hid hXl
        have HPS := Lib.hid (fun W (hb : Below kb wo W) (k : Nat) (hk : n + k < l.length) => RQ.at ((RV.chg HR.out HCR.out (fun p e => by cases e; exact hpg) : RQ wo (some pa) m l).below (hkb ▸ hb)) (n + k) hk)
        have hpk : pa.block < kb := by rw [hkb]; have := HCR.out.size; omega
        clear hw1 hk1 hb1 hX hXl hkb
        go_wp2
        go_loopw [13] (fun j wq => ∃ k : Nat, k ≤ N ∧ j = .int .i64 ((n + k : Nat) : Int) ∧ wq.heap[kb]? = some (.cells #[.int .i64 (M : Int), .int .i64 (N : Int), .int .i64 (((X.take k).map (·.c)).sum), .int .i64 (((X.take k).map (·.d)).sum)] 92 (0, 0)) ∧ Below kb wo wq) (fun j _ => n + N - (intOf j).toNat)
        case atStart => exact ⟨0, by omega, by simp, by simpa using HK1.out, HB1.out⟩
        case round =>
          obtain ⟨k, hk, rfl, hkq, hbq⟩ := hrel
          obtain ⟨J, hJ⟩ : ∃ J, J = n + k := ⟨_, rfl⟩
          rw [← hJ]
          by_cases hkN : k < N
          · have hkl : n + k < l.length := by omega
            have hXk : k < X.length := by rw [HXL.out]; omega
            have hxe : X[k] = l[n + k] := by
              simp only [HX.out, List.getElem_drop]
            have sc := sum_take (f := (·.c)) X k hXk
            have sd := sum_take (f := (·.d)) X k hXk
            have hmem : ∀ q ∈ X.take k, q ∈ l := fun q h => by
              have h1 := List.mem_of_mem_take h
              rw [HX.out] at h1
              exact List.mem_of_mem_drop h1
            have bc := sum_bound (f := (·.c)) (X.take k) (fun q h => (HQ.out q (hmem q h)).1)
            have bd := sum_bound (f := (·.d)) (X.take k) (fun q h => (HQ.out q (hmem q h)).2)
            rw [List.length_take, HXL.out] at bc bd
            have hx := HQ.out _ (List.getElem_mem hkl)
            have hps := fun W hb => HPS.out W hb k hkl
            rw [hxe] at sc sd
            have HSC := Lib.hid sc
            have HSD := Lib.hid sd
            obtain ⟨x, hx9⟩ : ∃ x, x = l[n + k] := ⟨_, rfl⟩
            rw [← hx9] at hx hps HSC HSD
            rw [← hJ] at hps
            obtain ⟨SC, hSC⟩ : ∃ S, S = ((X.take k).map (·.c)).sum := ⟨_, rfl⟩
            obtain ⟨SD, hSD⟩ : ∃ S, S = ((X.take k).map (·.d)).sum := ⟨_, rfl⟩
            rw [← hSC] at hkq bc HSC
            rw [← hSD] at hkq bd HSD
            obtain ⟨xa, xb, xc, xd⟩ := x
            have bc2 : SC ≤ 150000 := by omega
            have bd2 : SD ≤ 150000 := by omega
            have b1 : (0 : Int) ≤ xc ∧ xc ≤ 1000 := hx.1
            have b2 : (0 : Int) ≤ xd ∧ xd ≤ 1000 := hx.2
            have bc1 := bc.1
            have bd1 := bd.1
            have j0 : (0 : Int) ≤ (J : Int) := by omega
            have j1 : (J : Int) < (n : Int) + (N : Int) := by omega
            have j2 : (J : Int) < (m : Int) := by omega
            have hnk : ¬ (pa.add (J * 4)).block = kb := by rw [add_block]; omega
            have HPW := Lib.hid hps
            have HKQ := Lib.hid hkq
            have HBQ := Lib.hid hbq
            have ps1 : ∀ W, Below kb wo W → W.cell? ⟨(pa.add (J * 4)).block, (pa.add (J * 4)).off + 2, none⟩ = some (.int .i64 xc) ∧ W.cell? ⟨(pa.add (J * 4)).block, (pa.add (J * 4)).off + 3, none⟩ = some (.int .i64 xd) := fun W hb => by
              obtain ⟨p, e, -, -, h3, h4⟩ := HPW.out W hb
              cases e
              exact ⟨h3, h4⟩
            have HPS1 := Lib.hid ps1
            have hdq : Below kb wo wr.drew := ⟨hbq.os, hbq.tape, hbq.output, hbq.size, hbq.block⟩
            have c1 := (ps1 _ hdq).1
            have hkd : wr.drew.heap[kb]? = _ := hkq
            have gk := cell_blk hkd
            have fk := free_blk hkd
            have HJ := Lib.hid hJ
            have HDQ := Lib.hid hdq
            have HKD := Lib.hid hkd
            clear sc sd hmem bc bd hx hps hx9 hSC hSD hxe hkq hbq ps1 hdq hkd hkl hXk hJ
            go_wp2_with fail
            go_still_tail 9, (by kernel_rfl)
            go_wp2_with fail
            obtain ⟨wx, hwx⟩ : ∃ wx, wx = (wr.setCell ⟨kb, 2, none⟩ (.int .i64 (SC + xc))).drew := ⟨_, rfl⟩
            rw [← hwx]
            have hkx : wx.heap[kb]? = some (.cells #[.int .i64 (M : Int), .int .i64 (N : Int), .int .i64 (SC + xc), .int .i64 SD] 92 (0, 0)) := by rw [hwx]; exact blk_setCell HKQ.out 2 _
            have hbx : Below kb wo wx := by
              have h := HBQ.out.setCell (p := ⟨kb, 2, none⟩) (Nat.le_refl _) (.int .i64 (SC + xc))
              rw [hwx]
              exact ⟨h.os, h.tape, h.output, h.size, h.block⟩
            have hdx : Below kb wo wx.drew := ⟨hbx.os, hbx.tape, hbx.output, hbx.size, hbx.block⟩
            have c2 := (HPS1.out _ hdx).2
            have hxd : wx.drew.heap[kb]? = _ := hkx
            clear gk fk c1 hwx
            have gk := cell_blk hxd
            have fk := free_blk hxd
            have HKX := Lib.hid hkx
            have HBX := Lib.hid hbx
            clear hkx hbx hdx hxd
            go_wp2_with fail
            go_still_tail 9, (by kernel_rfl)
            go_wp2_with fail
            obtain ⟨wz, hwz⟩ : ∃ wz, wz = (wx.setCell ⟨kb, 3, none⟩ (.int .i64 (SD + xd))).drew := ⟨_, rfl⟩
            rw [← hwz]
            have hkz : wz.heap[kb]? = some (.cells #[.int .i64 (M : Int), .int .i64 (N : Int), .int .i64 (SC + xc), .int .i64 (SD + xd)] 92 (0, 0)) := by rw [hwz]; exact blk_setCell HKX.out 3 _
            have hbz : Below kb wo wz := by
              have h := HBX.out.setCell (p := ⟨kb, 3, none⟩) (Nat.le_refl _) (.int .i64 (SD + xd))
              rw [hwz]
              exact ⟨h.os, h.tape, h.output, h.size, h.block⟩
            have HKZ := Lib.hid hkz
            have HBZ := Lib.hid hbz
            clear gk fk c2 hwz hkz hbz
            go_wp2
            have hJ := HJ.out
            exact ⟨⟨k + 1, by omega, by subst hJ; go_num, by rw [HSC.out, HSD.out]; exact HKZ.out, HBZ.out⟩, by simp [intOf]; omega⟩
          · obtain rfl : k = N := by omega
            obtain ⟨gr, hgr⟩ : ∃ gr, gr = X.take k := ⟨_, rfl⟩
            rw [← hgr] at hkq
            have hgr2 : (l.drop n).take k = gr := by rw [hgr, HX.out]
            have hgl : gr.length = k := by rw [hgr, List.length_take, HXL.out]; omega
            have hrw : RQ wo (some pa) m l := RV.chg HR.out HCR.out (fun p e => by cases e; exact hpg)
            have hrc := RQ.cut (RQ.below hrw (HKB.out ▸ hbq)) n k (by omega)
            rw [hgr2] at hrc
            have HLF := Lib.hid (rleaf_fun (some (pa.add (n * 4))) k (ca - n) gr wr hrc)
            have HGL := Lib.hid hgl
            have HGR2 := Lib.hid hgr2
            have HKQ := Lib.hid hkq
            have HBQ := Lib.hid hbq
            have j1 : (n : Int) ≤ (n : Int) + (k : Int) := by omega
            have j2 : (n : Int) + (k : Int) ≤ (ca : Int) := by omega
            have j3 : (0 : Int) ≤ (n : Int) + (k : Int) := by omega
            obtain rfl : J = n + k := hJ
            clear hgr hgr2 hgl hrc hkq hbq
            go_wp2_with fail
            refine HLF.out.mono ?_
            rintro e w5 ⟨v5, rfl, ho5, hb5⟩
            obtain ⟨a5, c5, hv5, hr5, -, hq5, -⟩ := ho5.form
            subst hv5
            have hT := leafB_le gr
            obtain ⟨T, hT9⟩ : ∃ T, T = (P.leafB gr).length := ⟨_, rfl⟩
            rw [← hT9] at hT hr5 ⊢
            have hM := HM.out
            have hbo : Below wo.heap.size wo wr := HKB.out ▸ HBQ.out
            have HLAY := Lib.hid (ilay_any B g L c M (layN img A (G.map P.leafB)) a5 T c5 (P.leafB gr) w5 ((HIM.out.below hbo).below hb5) hr5 (fun q e => by have := (hq5 q e).1; have := hbo.size; have := HCR.out.size; omega) hL (by have := HAL.out; omega))
            have HB5 := Lib.hid hb5
            have HBO := Lib.hid hbo
            clear ho5 hb5 hr5 hq5 hT hT9 hM hbo
            go_wp2_with fail
            refine (first_any _ _ _ _ _).mono ?_
            rintro e w6 ⟨rfl, rfl⟩
            go_wp2_with fail
            refine HLAY.out.mono ?_
            rintro e w7 ⟨rfl, hi7, hc7⟩
            have hM := HM.out
            have hi7' : ImgAt w7 B g L c (layN img A ((G ++ [gr]).map P.leafB)) := by
              rw [List.map_append, List.map_cons, List.map_nil, layN_snoc, List.length_map, ← hM]
              exact hi7
            have hsz : w.heap.size ≤ wo.heap.size := HCR.out.size
            have hkb := HKB.out
            have hk7 := (hc7.block kb (by have := HBO.out.size; have := HB5.out.size; have := lt_of_block HKQ.out; omega) (by omega)).trans ((HB5.out.block kb (lt_of_block HKQ.out)).trans HKQ.out)
            have ho7 := ((HO.out.below HBO.out).below HB5.out).turned hc7 hgB
            have hcw := ((HCR.out.trans (Chg.of_below HBO.out _)).trans (Chg.of_below HB5.out _)).trans hc7
            obtain ⟨SC, hSC⟩ : ∃ S, S = (gr.map (·.c)).sum := ⟨_, rfl⟩
            obtain ⟨SD, hSD⟩ : ∃ S, S = (gr.map (·.d)).sum := ⟨_, rfl⟩
            rw [← hSC, ← hSD] at hk7
            have hks : kidsOf A (G ++ [gr]) = kidsOf A G ++ [(⟨(M : Int), (k : Int), SC, SD⟩ : P.Q)] := by
              rw [kidsOf_snoc, ← hM, hSC, hSD]
              unfold kidOf
              rw [HGL.out]
            have gk := cell_blk hk7
            have hrq := RQ_one w7 92 ⟨(M : Int), (k : Int), SC, SD⟩
            have hst : w.heap.size ≤ (w7.alloc (.cells #[.int .i64 (M : Int), .int .i64 (k : Int), .int .i64 SC, .int .i64 SD] 92)).heap.size := by have := hcw.size; simp; omega
            have HRQ := Lib.hid hrq
            have HI7 := Lib.hid hi7'
            have HO7 := Lib.hid ho7
            have HCW := Lib.hid hcw
            have HKS := Lib.hid hks
            clear hi7 hi7' hc7 hM hsz hkb hk7 ho7 hcw hSC hSD hks hrq
            go_wp2_with (at_builtin; refine wpList_appV kidsT _ rfl _ _ rfl w.heap.size _ _ _ rfl (HO7.out.alloc _) _ _ _ _ rfl HRQ.out (qC_one _) ?c1 ?c2 hst ?_)
            case c1 => omega
            case c2 => omega
            intro v9 w9 hown9 hg9 hat9
            have hc9 := chg_grown (HCW.out.alloc _) hg9 (fun r e => HO7.out.base r e)
            have hi9 := (HI7.out.below ((Below.refl _ w7).alloc (Nat.le_refl _) _)).grown hg9 (fun r e => by have := HO7.out.base r e; omega)
            rw [← qCs_snoc, ← HKS.out] at hown9
            obtain ⟨a9, c9, hv9, -⟩ := hown9.form
            subst hv9
            have HO9 := Lib.hid hown9
            have HC9 := Lib.hid hc9
            have HI9 := Lib.hid hi9
            clear hown9 hg9 hat9 hc9 hi9 gk
            go_wp2
            go_roundw
            case rel =>
              have hM := HM.out
              exact ⟨n + k, G ++ [gr], by omega, by go_num, by rw [← HGR2.out]; exact HG2.out, by rw [List.length_append]; subst hM; simp; omega, ⟨_, _, _, rfl⟩, by rw [List.length_append]; exact HO9.out, HI9.out, HC9.out⟩
            case measure => simp [intOf]; omega
    · obtain rfl : n = m := by omega
      have hgi := hG.inv
      rw [hln] at hgi
      have hrq : RQ wr av G.length (kidsOf A G) ∧ G.length ≤ cv := by
        obtain ⟨a', c', e, hr', hc', -⟩ := ho.form
        cases e
        exact ⟨hr', hc'⟩
      have hkl := kidsOf_length A G
      by_cases h1 : G.length = 1
      · obtain ⟨g1, hg1⟩ : ∃ g1, G = [g1] := List.length_eq_one_iff.1 h1
        obtain ⟨p, rfl, hc1, -⟩ := hrq.1.at 0 (by omega)
        have e0 : (kidsOf A G)[0].a = (A : Int) := by subst hg1; rfl
        rw [e0] at hc1
        rw [h1]
        have hp0 : p.add (0 * 4) = p := by simp [Addr.add]
        rw [hp0] at hc1
        have hp1 : p.add 0 = p := by simp [Addr.add]
        have HFIN := Lib.hid (show GrowEnd B g L c A img l w (.returned (.tuple #[.int .i64 (A : Int), .int .i64 1, .int .i64 ((A + 1 : Nat) : Int)])) wr from
          ⟨G, by rw [hln]; exact hG, by rw [if_pos h1, if_pos h1, if_pos h1]; rfl, by unfold growI; rw [if_pos h1]; exact him, hcr⟩)
        clear ho him hcr hG hrq e0 hg1 HO HIM HCR HG h1 hkl hgi hp0
        go_wp2
        go_ret3
        exact HFIN.out
      · have h2 : 2 ≤ G.length ∧ G.length ≤ 8 := by omega
        have hib := innB_le 1 (kidsOf A G)
        obtain ⟨T, hT⟩ : ∃ T, T = (P.innB 1 (kidsOf A G)).length := ⟨_, rfl⟩
        obtain ⟨Z, hZ⟩ : ∃ Z, Z = G.length := ⟨_, rfl⟩
        have HIN := Lib.hid (rinner_fun 1 av Z cv (kidsOf A G) wr (hZ ▸ hrq.1))
        have hz1 : ((Z : Int) == 1) = false := by simp; omega
        obtain ⟨M, hM⟩ : ∃ M, M = A + Z := ⟨_, rfl⟩
        have hMb : (M : Int) ≤ 3000 := by omega
        have HGI := Lib.hid (show growI img A G = layAt (layN img A (G.map P.leafB)) (M * 256) (P.innB 1 (kidsOf A G)) by
          unfold growI
          rw [if_neg h1, layN_snoc, List.length_map, ← hZ, ← hM])
        have HGE := Lib.hid (fun (w' : World) (hi : ImgAt w' B g L c (growI img A G)) (hc : Chg (fun j => j = g) w w') => show GrowEnd B g L c A img l w (.returned (.tuple #[.int .i64 (M : Int), .int .i64 2, .int .i64 ((M + 1 : Nat) : Int)])) w' from
          ⟨G, by rw [hln]; exact hG, by rw [if_neg h1, if_neg h1, if_neg h1, hM, hZ]; rfl, hi, hc⟩)
        have HML := Lib.hid (show M * 256 + 256 ≤ L by have := HAL.out; omega)
        have HTL := Lib.hid hT
        have HTB := Lib.hid hib
        rw [← hZ, ← hM]
        clear ho him hcr hG hrq h1 hkl hgi hib hT hZ hM h2
        go_wp2_with fail
        refine HIN.out.mono ?_
        rintro e w5 ⟨v5, rfl, ho5, hb5⟩
        obtain ⟨a5, c5, hv5, hr5, -, hq5, -⟩ := ho5.form
        subst hv5
        rw [← HTL.out] at hr5 ⊢
        have HLAY := Lib.hid (ilay_any B g L c M (layN img A (G.map P.leafB)) a5 T c5 (P.innB 1 (kidsOf A G)) w5 (HIM.out.below hb5) hr5 (fun q e => by have := (hq5 q e).1; have := HCR.out.size; omega) hL (by have := HML.out; have := HTL.out; have := HTB.out; omega))
        have HC5 := Lib.hid (HCR.out.trans (Chg.of_below hb5 _))
        clear ho5 hr5 hq5 hb5
        go_wp2_with fail
        refine (first_any _ _ _ _ _).mono ?_
        rintro e w6 ⟨rfl, rfl⟩
        go_wp2_with fail
        refine HLAY.out.mono ?_
        rintro e w7 ⟨rfl, hi7, hc7⟩
        have HFIN := Lib.hid (HGE.out w7 (by rw [HGI.out]; exact hi7) (HC5.out.trans hc7))
        clear hi7 hc7
        go_wp2
        go_ret3
        exact HFIN.out
end Go.Proofs.YtnjpaanjgbfbaaaGreat
