/- The reference's walker: chain. -/
import Derived.Test.YtnjpaanjgbfbaaaGreatJ37
import Derived.Test.YtnjpaanjgbfbaaaGreatJ13
namespace Go.Proofs.YtnjpaanjgbfbaaaGreat
set_option linter.unusedVariables false
set_option linter.unusedSimpArgs false
open Go.RowKit

/-- How the reference's chain ends. -/
def RCend (C : RC) (S : Nat → Prop) (vS : Value) (spec : Option (List UInt8 × P.St)) (w : World) (e : Ending) (w' : World) : Prop :=
  ∃ a n c out st' bd, e = .returned (.slice a n c) ∧ OB w' w.heap.size (.slice a n c) out ∧ RW C S w' st' vS bd ∧ Stp S w S w' ∧ (bd = false → spec = some (out, st')) ∧ (bd = true → spec = none) ∧ out.length ≤ 1048824
set_option maxRecDepth 100000 in
set_option maxHeartbeats 1600000 in
/-- Where something is wrong already, nothing is read. -/
theorem rchain_bad (C : RC) (S : Nat → Prop) (st : P.St) (vS : Value) (n : Int) (c : Int) (w : World) (h : RW C S w st vS true) :
    Calls Tryz.prog 48 #[.pointer (some ⟨C.q, 0, none⟩), .int .i64 n, .int .u8 c] w fun e w' => e = .returned (.slice none 0 0) ∧ w = w' := by
  obtain ⟨vP, vT, hq⟩ := h.cells
  have g : w.cell? ⟨C.q, 16, none⟩ = some (.bool true) := cell_blk hq 16
  clear h hq
  go_enter Tryz.func48, Tryz.ntmps48
  go_wp2_with fail
  refine wp_loop_rounds 1 ?_
  rw [rounds_succ]
  by_cases h0 : n = 0
  · have q : (n != 0) = false := by simpa using h0
    clear h0
    go_wp2_with fail
    go_ret
    exact ⟨rfl, rfl⟩
  · have q : (n != 0) = true := by simpa using h0
    clear h0
    go_wp2_with fail
    go_ret
    exact ⟨rfl, rfl⟩
set_option maxRecDepth 100000 in
set_option maxHeartbeats 3200000 in
theorem rchain_any (C : RC) (S : Nat → Prop) (st : P.St) (vS : Value) (n0 : Nat) (kd : UInt8) (w : World) (h : RW C S w st vS false) (hn0 : n0 < 1000000) (hk0 : kd.toNat ≠ 0) (hk1 : kd.toNat ≠ 120) :
    Calls Tryz.prog 48 #[.pointer (some ⟨C.q, 0, none⟩), .int .i64 (n0 : Int), .int .u8 (kd.toNat : Int)] w (RCend C S vS (P.chainW C.img C.np (C.np + 1) n0 [] st) w) := by
  have H := Lib.hid h
  have hnS : ∀ j, w.heap.size ≤ j → ¬ S j := fun j hj hs => by have := h.sets _ hs; omega
  have hcn := P.cnt_le C.np st
  have HGE := Lib.hid h.ge
  have hBw : C.B ≤ w.heap.size := h.ge
  have hqB : C.q < C.B := h.okc.1
  have hck : kd.toNat = 120 ↔ 5 = 4 := ⟨fun e => absurd e hk1, fun e => by omega⟩
  have HPN := Lib.hid (fun (sk : P.St) (n : Nat) (w1 : World) (hw : RW C S w1 sk vS false) (hn : n < 1000000) (hp : ¬ pgOk C.np sk n kd) => page_no C S sk vS n 5 kd w1 hw hn (by omega) hk0 hck hp)
  have HPY := Lib.hid (fun (sk : P.St) (n : Nat) (w1 : World) (hw : RW C S w1 sk vS false) (hn : n < 1000000) (hp : pgOk C.np sk n kd) => page_yes C S sk vS n 5 kd w1 hw hn (by omega) hk0 hck hp)
  have HPF := Lib.hid (fun (sk : P.St) (n : Nat) => pgOk_free (np := C.np) (n := n) (st := sk) hk1)
  obtain ⟨SP, hSP⟩ : ∃ SP, SP = P.chainW C.img C.np (C.np + 1) n0 [] st := ⟨_, rfl⟩
  rw [← hSP]
  have HSP := Lib.hid hSP
  generalize (kd.toNat : Int) = kdi at *
  clear h hck hSP hk0 hk1
  go_enter Tryz.func48, Tryz.ntmps48
  go_wp2_with fail
  go_loopg [1, 7] (C.np + 1) (fun gk pp vv wr => ∃ (n : Nat) (out : List UInt8) (sk : P.St) (bd : Bool), pp = .int .i64 (n : Int) ∧ n < 1000000 ∧ (bd = false → SP = P.chainW C.img C.np gk n out sk ∧ C.np + 1 ≤ gk + P.cnt C.np sk ∧ out.length ≤ 1048576) ∧ (bd = true → SP = none) ∧ (∃ a m c, vv = .slice a m c) ∧ OB wr w.heap.size vv out ∧ RW C S wr sk vS bd ∧ Stp S w S wr ∧ out.length ≤ 1048824)
  case atStart => exact ⟨n0, [], st, false, rfl, hn0, fun _ => ⟨HSP.out, by omega, by simp⟩, (fun e => by cases e), ⟨_, _, _, rfl⟩, OB.nil _ _, H.out, Stp.refl _ _, by simp⟩
  case round =>
    obtain ⟨n, out, sk, bd, rfl, hn, hgd, hbd, ⟨va, vn, vc, rfl⟩, hob, hwk, hst, hlen⟩ := hrel
    obtain ⟨vP, vT, hq⟩ := hwk.cells
    have gb : wr.cell? ⟨C.q, 16, none⟩ = some (.bool bd) := cell_blk hq 16
    have HOB := Lib.hid hob
    have HWK := Lib.hid hwk
    have HST := Lib.hid hst
    by_cases hx : bd = false ∧ n ≠ 0
    rotate_left
    · have HFIN := Lib.hid (show RCend C S vS SP w (.returned (.slice va vn vc)) wr from ⟨va, vn, vc, out, sk, bd, rfl, HOB.out, HWK.out, HST.out, fun e => by
        have hn0 : n = 0 := by
          rcases Nat.eq_zero_or_pos n with h | h
          · exact h
          · exact absurd ⟨e, by omega⟩ hx
        rw [(hgd e).1, hn0]
        exact chainW_zero _ _ _ _ _, hbd, hlen⟩)
      have hc : (n = 0) ∨ (n ≠ 0 ∧ bd = true) := by
        rcases Nat.eq_zero_or_pos n with h | h
        · exact .inl h
        · refine .inr ⟨by omega, ?_⟩
          cases bd
          · exact absurd ⟨rfl, by omega⟩ hx
          · rfl
      clear hgd hbd hob hwk hst hq hx
      rcases hc with rfl | ⟨h0, rfl⟩
      · go_wp2
        go_ret
        exact HFIN.out
      · have q0 : ((n : Int) != 0) = true := by simp; omega
        clear h0
        go_wp2
        go_ret
        exact HFIN.out
    · obtain ⟨rfl, hz⟩ := hx
      obtain ⟨hspec, hf, hlen2⟩ := hgd rfl
      have q0 : ((n : Int) != 0) = true := by simp; omega
      have hcn := P.cnt_le C.np sk
      obtain ⟨g1, hg1⟩ : ∃ g1, gk = g1 + 1 := ⟨gk - 1, by omega⟩
      have hsu := chainW_succ C.img C.np g1 n out sk hz
      rw [← hg1] at hsu
      have HSU := Lib.hid (hspec.trans hsu)
      have HG1 := Lib.hid hg1
      clear hgd hbd hob hwk hst hq hspec hsu hg1
      by_cases hp : pgOk C.np sk n kd
      rotate_left
      · have HP := Lib.hid (HPN.out sk n wr HWK.out hn hp)
        have HNO := Lib.hid (show SP = none by rw [HSU.out, if_neg (fun e => hp ((HPF.out sk n).2 e.1))])
        clear hp
        go_wp2_with fail
        refine HP.out.mono ?_
        rintro e w2 ⟨rfl, hk2, hs2⟩
        obtain ⟨vP2, vT2, hq2⟩ := hk2.cells
        have gb2 : w2.cell? ⟨C.q, 16, none⟩ = some (.bool true) := cell_blk hq2 16
        have HFIN := Lib.hid (show RCend C S vS SP w (.returned (.slice va vn vc)) w2 from ⟨va, vn, vc, out, sk, true, rfl, HOB.out.chg hs2.1 (fun k hk => hnS k (World.ownsRow.lt HOB.out k hk).1), hk2, HST.out.trans hs2, (fun e => by cases e), fun _ => HNO.out, hlen⟩)
        clear hk2 hs2 hq2
        go_wp2
        go_ret
        exact HFIN.out
      · have HP := Lib.hid (HPY.out sk n wr HWK.out hn hp)
        have hfr := (HPF.out sk n).1 hp
        have HFR := Lib.hid hfr
        have HCK := Lib.hid (cnt_keep C.np sk n 5 (by omega) hfr)
        clear hp hfr
        go_wp2_with fail
        refine HP.out.mono ?_
        rintro e w2 ⟨p, cp, rfl, hcp, hr2, hpB, hk2, hs2⟩
        obtain ⟨vP2, vT2, hq2⟩ := hk2.cells
        have gb2 : w2.cell? ⟨C.q, 16, none⟩ = some (.bool false) := cell_blk hq2 16
        have HPT := Lib.hid (rpart_fun (some p) 256 cp _ w2 hr2 hcp)
        have HK2 := Lib.hid hk2
        have HS2 := Lib.hid hs2
        have HOB2 := Lib.hid (HOB.out.chg hs2.1 (fun k hk => hnS k (World.ownsRow.lt HOB.out k hk).1))
        clear hk2 hs2 hq2 hr2
        go_wp2_with fail
        refine HPT.out.mono ?_
        rintro e w3 ⟨a3, n3, c3, rfl, hr3, hc3, ha3, hb3⟩
        have HK3 := Lib.hid (HK2.out.below hb3)
        have HS3 := Lib.hid ((HST.out.trans HS2.out).trans (Stp.below hb3))
        have HR3 := Lib.hid hr3
        have HOB3 := Lib.hid (HOB2.out.below hb3)
        have hsz3 : w.heap.size ≤ w3.heap.size := HS3.out.1.size
        obtain ⟨m, hm, hm4⟩ := ptN_nat (P.pg C.img n)
        have h244 : (P.ptL (P.pg C.img n)).length ≤ 248 := ptL_le _
        have h3n := hr3.1
        have hvn := HOB.out.len
        obtain ⟨vP3, vT3, hq3⟩ := HK3.out.cells
        have gq3 := cell_blk hq3
        have fq3 := free_blk hq3
        unfold rwC at gq3
        obtain ⟨Z, hZ⟩ : ∃ Z, Z = P.ptL (P.pg C.img n) := ⟨_, rfl⟩
        rw [← hZ] at HR3 h3n h244
        have HZ := Lib.hid hZ
        have HM := Lib.hid hm
        have n3le : n3 ≤ 248 := by omega
        have vnle : vn ≤ 1048576 := by omega
        have H3N := Lib.hid h3n
        have HVN := Lib.hid hvn
        have HAPP := Lib.hid (fun (W w4 : World) (v4 : Value) (bdx : Bool) (h1 : OB W w.heap.size (.slice va vn vc) out) (h2 : RW C S W (sk.hit n 5) vS bdx) (h3 : Stp S w S W) (h4 : W.grownBy w4 (Value.slice va vn vc).ownBlock) => (show RW C S w4 (sk.hit n 5) vS bdx ∧ Stp S w S w4 from by
          have hc4 := grown_chg h4
          have hge : ∀ j, some j = (Value.slice va vn vc).ownBlock → w.heap.size ≤ j := fun j e => (World.ownsRow.lt h1 j e.symm).1
          refine ⟨h2.chg hc4 (fun j _ e => hnS j (hge j e)) (fun j _ e => Nat.le_trans hBw (hge j e)), ⟨h3.1.then hc4 (fun i hi e => by have := hge i e; omega), h3.2⟩⟩))
        have hnq : ∀ k, (Value.slice va vn vc).ownBlock = some k → ¬ k = C.q := fun k hk e => by have := (World.ownsRow.lt HOB.out k hk).1; omega
        have HFB := Lib.hid (HOB3.out.chg (setCell_chg w3 C.q 16 (.bool true)) hnq)
        have HFR3 := Lib.hid (HR3.out.chg (setCell_chg w3 C.q 16 (.bool true)) (fun p e h => by have h1 := ha3 p e; have h2 := HK2.out.ge; omega))
        have HFK := Lib.hid (HK3.out.flag true)
        have hszf : w.heap.size ≤ (w3.setCell ⟨C.q, 16, none⟩ (.bool true)).heap.size := Nat.le_trans hsz3 (setCell_chg w3 C.q 16 (.bool true)).size
        have HSZF := Lib.hid hszf
        rw [hm]
        obtain ⟨E, hE⟩ : ∃ E, E = P.ptErr (P.pg C.img n) := ⟨_, rfl⟩
        rw [← hE]
        have HE := Lib.hid hE
        have HOL := Lib.hid hlen2
        have hlo : vn + n3 ≤ 140737488355328 := by omega
        have HLO := Lib.hid (show out.length + n3 ≤ 140737488355328 by omega)
        clear hr3 ha3 hb3 hm hZ h3n hvn hq3 hE hszf gb gb2 hlen hlen2
        by_cases he : E = 0 ∧ vn + n3 ≤ 1048576
        · obtain ⟨rfl, hle⟩ := he
          have q4 : decide ((1048576 : Int) < (vn : Int) + (n3 : Int)) = false := decide_eq_false (by omega)
          have q5 : ¬ (1048576 : Int) < (vn : Int) + (n3 : Int) := by omega
          go_wp2_with (at_builtin; refine wpList_app _ rfl _ _ rfl w.heap.size _ _ rfl HOB3.out _ _ _ Z rfl HR3.out HLO.out hsz3 ?_)
          intro v4 w4 ho4 hg4 hat4
          have hap := HAPP.out _ _ v4 _ HOB3.out HK3.out HS3.out hg4
          obtain ⟨a4, c4, hv4, -⟩ := ho4.form
          subst hv4
          have HAP := Lib.hid hap
          have HO4 := Lib.hid ho4
          obtain ⟨l4, hl4⟩ : ∃ l4, l4 = (out ++ Z).length := ⟨_, rfl⟩
          rw [← hl4] at HO4 ⊢
          have HL4 := Lib.hid hl4
          have HNX := Lib.hid (show SP = P.chainW C.img C.np g1 m (out ++ Z) (sk.hit n 5) by
            rw [HSU.out, if_pos ⟨HFR.out, HE.out.symm, by rw [← HZ.out, List.length_append]; have := HVN.out; have := H3N.out; omega⟩, HM.out, ← HZ.out]
            rfl)
          clear ho4 hg4 hat4 hap hl4 gq3 fq3
          go_wp2
          go_roundg g1
          case measure => have := HG1.out; omega
          case rel => exact ⟨m, out ++ Z, sk.hit n 5, false, rfl, by omega, fun _ => ⟨HNX.out, by have := HCK.out; have := HG1.out; omega, by rw [List.length_append]; have := HVN.out; have := H3N.out; omega⟩, (fun e => by cases e), ⟨_, _, _, rfl⟩, HO4.out, HAP.out.1, HAP.out.2, by rw [List.length_append]; have := HVN.out; have := H3N.out; omega⟩
        · have HNO := Lib.hid (show SP = none by
            rw [HSU.out, if_neg]
            intro e
            refine he ⟨HE.out.trans e.2.1, ?_⟩
            have h1 := e.2.2
            rw [← HZ.out, List.length_append] at h1
            have := HVN.out
            have := H3N.out
            omega)
          have hcs : (E ≠ 0) ∨ (E = 0 ∧ 1048576 < vn + n3) := by
            by_cases e : E = 0
            · refine .inr ⟨e, ?_⟩
              rcases Nat.lt_or_ge 1048576 (vn + n3) with h | h
              · exact h
              · exact absurd ⟨e, h⟩ he
            · exact .inl e
          clear he
          rcases hcs with he | ⟨rfl, hgt⟩
          all_goals
            first
              | (have q4 : (E != 0) = true := by simpa using he
                 clear he)
              | (have q4 : decide ((1048576 : Int) < (vn : Int) + (n3 : Int)) = true := decide_eq_true (by omega)
                 have q5 : (1048576 : Int) < (vn : Int) + (n3 : Int) := by omega
                 clear hgt)
            go_wp2_with (at_builtin; refine wpList_app _ rfl _ _ rfl w.heap.size _ _ rfl HFB.out _ _ _ Z rfl HFR3.out HLO.out HSZF.out ?_)
            intro v4 w4 ho4 hg4 hat4
            have hap := HAPP.out _ _ v4 _ HFB.out HFK.out.1 (HS3.out.trans HFK.out.2) hg4
            obtain ⟨a4, c4, hv4, -⟩ := ho4.form
            subst hv4
            have HAP := Lib.hid hap
            have HO4 := Lib.hid ho4
            obtain ⟨l4, hl4⟩ : ∃ l4, l4 = (out ++ Z).length := ⟨_, rfl⟩
            rw [← hl4] at HO4 ⊢
            have HL4 := Lib.hid hl4
            clear ho4 hg4 hat4 hap hl4 gq3 fq3
            go_wp2
            go_roundg g1
            case measure => have := HG1.out; omega
            case rel => exact ⟨m, out ++ Z, sk.hit n 5, true, rfl, by omega, (fun e => by cases e), fun _ => HNO.out, ⟨_, _, _, rfl⟩, HO4.out, HAP.out.1, HAP.out.2, by rw [List.length_append]; have := HVN.out; have := H3N.out; omega⟩
end Go.Proofs.YtnjpaanjgbfbaaaGreat
