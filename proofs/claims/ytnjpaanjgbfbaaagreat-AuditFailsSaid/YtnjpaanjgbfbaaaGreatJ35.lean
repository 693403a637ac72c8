/- The reference's walker: leaf. -/
import Derived.Test.YtnjpaanjgbfbaaaGreatJ30
import Derived.Test.YtnjpaanjgbfbaaaGreatJ31
import Derived.Test.YtnjpaanjgbfbaaaGreatJ32
import Derived.Test.YtnjpaanjgbfbaaaGreatJ34
namespace Go.Proofs.YtnjpaanjgbfbaaaGreat
set_option linter.unusedVariables false
set_option linter.unusedSimpArgs false
open Go.RowKit

/-- How a part of the reference's walk ends that tells a sum. -/
def RSend (C : RC) (S : Nat → Prop) (vS : Value) (spec : Option (P.Sm × P.St)) (w : World) (e : Ending) (w' : World) : Prop :=
  (∃ x st' S', spec = some (x, st') ∧ e = .returned (.agg #[.int .i64 x.p, .int .i64 x.b, .int .i64 x.l]) ∧ RW C S' w' st' vS false ∧ Stp S w S' w') ∨
  (spec = none ∧ ∃ a b c st' S', e = .returned (.agg #[.int .i64 a, .int .i64 b, .int .i64 c]) ∧ RW C S' w' st' vS true ∧ Stp S w S' w')
/-- The walk of a leaf's bytes. -/
def leafB (img : List UInt8) (np : Nat) (b : List UInt8) (root : Bool) (st : P.St) : Option (P.Sm × P.St) :=
  if P.pcErr b = 0 ∧ (root = true ∨ 10 ≤ (P.pcL b).length) then ((P.pcL b).foldlM (P.piece img np true) st).map fun s => (P.smOf (P.pcL b), s) else none
theorem txok_fold {img : List UInt8} {np : Nat} {lim : Bool} {l : List P.Q} {st s : P.St} (h : l.foldlM (P.piece img np lim) st = some s) (ht : TxOk img st) : TxOk img s :=
  P.foldlM_keep (P.piece img np lim) (fun a b => TxOk img a → TxOk img b) (fun _ h => h) (fun _ _ _ f g h => g (f h)) (fun _ _ _ h => txok_piece h) l st s h ht
set_option maxRecDepth 100000 in
set_option maxHeartbeats 3200000 in
theorem rleaf_any (C : RC) (S : Nat → Prop) (st : P.St) (vS : Value) (p : Addr) (cp : Nat) (bs : List UInt8) (root : Bool) (w : World) (h : RW C S w st vS false) (hcp : 256 ≤ cp) (hr : Rd w (some p) 256 bs) (hpB : p.block < C.B) (hps : st.ps.length ≤ 90000) (ht : TxOk C.img st) :
    Calls Tryz.prog 68 #[.pointer (some ⟨C.q, 0, none⟩), .slice (some p) 256 cp, .bool root] w (RSend C S vS (leafB C.img C.np bs root st) w) := by
  obtain ⟨w0, hw0⟩ : ∃ w0, w0 = w.alloc (.cells #[.int .i64 0, .int .i64 0, .int .i64 0] 118) := ⟨_, rfl⟩
  have hb0 : Below w.heap.size w w0 := by rw [hw0]; exact (Below.refl _ w).alloc (Nat.le_refl _) _
  have k0 : w0.heap[w.heap.size]? = some (.cells #[.int .i64 0, .int .i64 0, .int .i64 0] 118 (0, 0)) := by rw [hw0]; exact alloc_new _ _ _ rfl
  have hz : w0.heap.size = w.heap.size + 1 := by rw [hw0]; simp
  have hnS : ∀ j, w.heap.size ≤ j → ¬ S j := fun j hj hs => by have := h.sets _ hs; omega
  have H0 := Lib.hid (h.below hb0)
  have HB0 := Lib.hid hb0
  have K0 := Lib.hid k0
  have HP := Lib.hid (rpieces_fun (some p) 256 cp bs w0 (hr.below hb0) hcp)
  have HGE := Lib.hid h.ge
  obtain ⟨SP, hSP⟩ : ∃ SP, SP = leafB C.img C.np bs root st := ⟨_, rfl⟩
  rw [← hSP]
  have hpe : leafB C.img C.np bs root st = if P.pcErr bs = 0 ∧ (root = true ∨ 10 ≤ (P.pcL bs).length) then ((P.pcL bs).foldlM (P.piece C.img C.np true) st).map fun s => (P.smOf (P.pcL bs), s) else none := rfl
  rw [hpe] at hSP
  have HALL := Lib.hid (fun e => P.pcL_all (b := bs) e)
  generalize P.pcErr bs = E at *
  generalize P.pcL bs = l at *
  obtain ⟨N, hN⟩ : ∃ N, N = l.length := ⟨_, rfl⟩
  have HSP := Lib.hid hSP
  have HN := Lib.hid hN
  clear hpe hSP h hr hb0 k0 hz
  go_enter Tryz.func68, Tryz.ntmps68
  go_wp2_with fail
  rw [← hw0]
  clear hw0
  refine HP.out.mono ?_
  rintro e w3 ⟨v3, rfl, ho3, hb3⟩
  obtain ⟨a3, c3, rfl, hr3, hc3, ha3, -⟩ := ho3.form
  rw [← hN] at hr3 hc3 ha3 ⊢
  have hnS0 : ∀ j, w.heap.size ≤ j → ¬ S j := hnS
  have HK3 := Lib.hid (H0.out.below hb3)
  have HS3 := Lib.hid ((Stp.below HB0.out).trans (Stp.below hb3) : Stp S w S w3)
  have K03 := Lib.hid ((hb3.block _ (lt_of_block K0.out)).trans K0.out)
  have HR3 := Lib.hid (show RQ w3 a3 N l from hr3)
  have HA3 := Lib.hid (show ∀ p, a3 = some p → ¬ S p.block ∧ C.B ≤ p.block ∧ p.block < w3.heap.size from fun p e => by
    have h1 := (ha3 p e).1
    have h4 := (ha3 p e).2.1
    have h2 := HB0.out.size
    have h3 := HGE.out
    exact ⟨hnS _ (by omega), by omega, h4⟩)
  obtain ⟨vP, vT, hq⟩ := HK3.out.cells
  have gq := cell_blk hq
  have fq := free_blk hq
  unfold rwC at gq
  have HFL := Lib.hid (HK3.out.flag true)
  have hq3 : ¬ w.heap.size = C.q := fun e => hnS _ (Nat.le_refl _) (e ▸ HK3.out.2.2.1.1)
  clear hq ho3 hr3 ha3 hb3 hN
  obtain ⟨bd0, hbd0⟩ : ∃ bd0 : Bool, bd0 = decide (¬ (E = 0 ∧ (root = true ∨ 10 ≤ N))) := ⟨_, rfl⟩
  have HBD := Lib.hid hbd0
  clear hbd0
  go_upto_region 2 with (fail)
  go_cut [26] from 9 (fun c wx => c = .bool bd0 ∧ w3 = wx)
  case first =>
    by_cases hE : E = 0
    · subst hE
      cases root
      · by_cases h10 : N < 10
        · have q1 : decide ((N : Int) < 10) = true := decide_eq_true (by omega)
          have q2 : (N : Int) < 10 := by omega
          obtain rfl : bd0 = true := by rw [HBD.out]; simp; omega
          clear h10
          go_wp2
          go_meet
          case rel => exact ⟨rfl, rfl⟩
        · have q1 : decide ((N : Int) < 10) = false := decide_eq_false (by omega)
          have q2 : ¬ (N : Int) < 10 := by omega
          obtain rfl : bd0 = false := by rw [HBD.out]; simp; omega
          clear h10
          go_wp2
          go_meet
          case rel => exact ⟨rfl, rfl⟩
      · obtain rfl : bd0 = false := by rw [HBD.out]; simp
        go_wp2
        go_meet
        case rel => exact ⟨rfl, rfl⟩
    · have q1 : (E != 0) = true := by simpa using hE
      obtain rfl : bd0 = true := by rw [HBD.out]; simp [hE]
      clear hE
      go_wp2
      go_meet
      case rel => exact ⟨rfl, rfl⟩
  case rest =>
  obtain ⟨rfl, rfl⟩ := hcut
  have HNO := Lib.hid (fun (e : bd0 = true) => show SP = none by
    rw [HSP.out, if_neg]
    rw [← HN.out]
    rw [HBD.out] at e
    exact of_decide_eq_true e)
  have HYES := Lib.hid (fun (e : bd0 = false) => show E = 0 ∧ (root = true ∨ 10 ≤ N) by
    rw [HBD.out] at e
    exact Decidable.not_not.1 (of_decide_eq_false e))
  go_upto_if 26 with (fail)
  go_cut [8] from 9 (fun s8 wx => RW C S wx st vS bd0 ∧ Stp S w3 S wx)
  case first =>
    cases bd0
    · go_wp2
      go_meet
      case rel => exact ⟨HK3.out, Stp.refl _ _⟩
    · go_wp2
      go_meet
      case rel => exact ⟨HFL.out.1, HFL.out.2⟩
  case rest =>
    obtain ⟨hk4, hs4⟩ := hcut
    have hwG := hs4.1.size
    have K04 := Lib.hid (Wk.apart hs4 K03.out (hnS _ (Nat.le_refl _)))
    have HR4 := Lib.hid (RQ.stp (l := l) (n := N) HR3.out hs4 (fun p e => (HA3.out p e).1))
    have hnSc : ∀ j, wc.heap.size ≤ j → ¬ S j := fun j hj hs => by have := hk4.sets _ hs; omega
    obtain ⟨w5, hw5⟩ : ∃ w5, w5 = wc.alloc (.cells #[.int .i64 0, .int .i64 0, .int .i64 0] 118) := ⟨_, rfl⟩
    have hb5 : Below wc.heap.size wc w5 := by rw [hw5]; exact (Below.refl _ wc).alloc (Nat.le_refl _) _
    have k5 : w5.heap[wc.heap.size]? = some (.cells #[.int .i64 0, .int .i64 0, .int .i64 0] 118 (0, 0)) := by rw [hw5]; exact alloc_new _ _ _ rfl
    have H5 := Lib.hid (hk4.below hb5)
    have HS5 := Lib.hid ((HS3.out.trans hs4).trans (Stp.below hb5))
    have HB5 := Lib.hid hb5
    have HS4 := Lib.hid hs4
    have K5 := Lib.hid k5
    have lc := lt_of_block K04.out
    have hGB : C.B ≤ wc.heap.size := hk4.ge
    obtain ⟨G, hG⟩ : ∃ G, G = wc.heap.size := ⟨_, rfl⟩
    clear hk4 hs4 hb5 k5 gq fq
    go_wp2_with fail
    rw [← hw5]
    clear hw5
    rw [← hG]
    have HG := Lib.hid hG
    have hnSG : ¬ S G := by rw [hG]; exact hnSc _ (Nat.le_refl _)
    have hGB : C.B ≤ G := by omega
    have hG0 : ¬ w.heap.size = G := by omega
    rw [← hG] at hwG
    clear hG hnSc
    go_loopw [10] (fun i wr => ∃ (k : Nat) (bd : Bool) (x y z : Int) (sk : P.St) (Sk : Nat → Prop), k ≤ N ∧ i = .int .i64 k ∧ (bd = false → bd0 = false ∧ sk.ps.length = st.ps.length + k ∧ (l.take k).foldlM (P.piece C.img C.np true) st = some sk ∧ x = (P.smOf (l.take k)).p ∧ y = (P.smOf (l.take k)).b ∧ z = (P.smOf (l.take k)).l) ∧ (bd = true → SP = none) ∧
      RW C Sk wr sk vS bd ∧ Stp S wc Sk wr ∧ ¬ Sk G ∧ wr.heap[G]? = some (.cells #[.int .i64 x, .int .i64 y, .int .i64 z] 118 (0, 0))) (fun i _ => N - (intOf i).toNat)
    case atStart => exact ⟨0, bd0, 0, 0, 0, st, S, by omega, rfl, fun e => ⟨e, rfl, rfl, rfl, rfl, rfl⟩, HNO.out, H5.out, Stp.below HB5.out, hnSG, by rw [HG.out]; exact K5.out⟩
    case round =>
      obtain ⟨k, bd, x, y, z, sk, Sk, hk, rfl, hg, hb, hwk, hst, hnG, hbox⟩ := hrel
      have HWK := Lib.hid hwk
      have HST := Lib.hid hst
      have HBX := Lib.hid hbox
      obtain ⟨vP5, vT5, hq5⟩ := hwk.cells
      have gq5 := cell_blk hq5 16
      have gq5' : wr.cell? ⟨C.q, 16, none⟩ = some (.bool bd) := gq5
      clear gq5
      by_cases hgo : bd = false ∧ k < N
      · obtain ⟨rfl, hlt⟩ := hgo
        obtain ⟨hb0', hpl, hfold, rfl, rfl, rfl⟩ := hg rfl
        obtain ⟨hE0, hroot⟩ := HYES.out hb0'
        have hall := HALL.out hE0
        have hkl : k < l.length := by have := HN.out; omega
        obtain ⟨nn, bb, cc, ll, hx⟩ := mayP_nat l[k] (hall.2 k hkl)
        have hm := hall.2 k hkl
        rw [hx] at hm
        have hst0 : Stp S wc Sk wr := hst
        obtain ⟨pa, rfl, e1, e2, e3, e4⟩ := RQ.at (RQ.stp (l := l) (n := N) HR4.out hst0 (fun p e => (HA3.out p e).1)) k hkl
        rw [hx] at e1 e2 e3 e4
        simp only at e1 e2 e3 e4
        have hft := P.foldlM_take (P.piece C.img C.np true) l st k hkl
        rw [hfold, hx] at hft
        have hsm := P.smOf_take l k hkl
        rw [hx] at hsm
        simp only at hsm
        have hbd := P.smOf_bound l hall.2 k (by omega)
        have hlc : l.length ≤ 20 := hall.1
        have hm2 := (P.Q.mayP_iff _).1 hm
        simp only at hm2
        obtain ⟨s1, s2', s3, s4, s5, s6⟩ := hbd
        have s2 : (P.smOf (l.take k)).p ≤ 20 := by omega
        clear s2'
        have HSM1 := Lib.hid hsm
        have HX := Lib.hid hx
        have HPL := Lib.hid hpl
        have HFT := Lib.hid hft
        have HSPF := Lib.hid (show SP = (l.foldlM (P.piece C.img C.np true) st).map fun s => (P.smOf l, s) by rw [HSP.out, if_pos ⟨hE0, by rw [← HN.out]; exact hroot⟩])
        have HPC := Lib.hid (rpiece_any C Sk sk vS nn bb cc ll wr HWK.out hm (by omega) (txok_fold hfold ht))
        have hAG : pa.block < G := Nat.lt_of_lt_of_le (HA3.out pa rfl).2.2 hwG
        generalize hsk : P.smOf (l.take k) = sm at *
        have i0 : (0 : Int) ≤ (k : Int) := by omega
        have i1 : (k : Int) < (N : Int) := by omega
        clear hft hsm hfold hwk hst hbox hx hsk hg hb hq5
        go_wp2_with fail
        refine HPC.out.mono ?_
        rintro e w6 ⟨rfl, hpe⟩
        obtain ⟨bd6, sk6, S6, g6, b6, hk6, hs6⟩ : ∃ (bd6 : Bool) (sk6 : P.St) (S6 : Nat → Prop), (bd6 = false → P.piece C.img C.np true sk ⟨(nn : Int), (bb : Int), (cc : Int), (ll : Int)⟩ = some sk6) ∧ (bd6 = true → SP = none) ∧ RW C S6 w6 sk6 vS bd6 ∧ Stp Sk wr S6 w6 := by
          rcases hpe with ⟨st', S', h1, h2, h3⟩ | ⟨h1, st', S', h2, h3⟩
          · exact ⟨false, st', S', fun _ => h1, (fun e => by cases e), h2, h3⟩
          · refine ⟨true, st', S', (fun e => by cases e), fun _ => ?_, h2, h3⟩
            rw [HSPF.out, P.foldlM_fail _ _ _ (k + 1) (by rw [HFT.out]; exact h1)]
            rfl
        have hs06 : Stp S wc S6 w6 := HST.out.trans hs6
        obtain ⟨pa', e', -, -, e3, e4⟩ := RQ.at (RQ.stp (l := l) (n := N) HR4.out hs06 (fun p e => (HA3.out p e).1)) k hkl
        cases e'
        rw [HX.out] at e3 e4
        simp only at e3 e4
        have kG6 := Wk.apart hs6 HBX.out hnG
        have gG := cell_blk kG6
        have fG := free_blk kG6
        have hnG6 : ¬ S6 G := fun hs => hnG (hs6.2 G (lt_of_block HBX.out) hs)
        have hne1 : ¬ (pa.add (k * 4)).block = G := by rw [add_block]; omega
        have hne2 : ¬ G = (pa.add (k * 4)).block := fun e => hne1 e.symm
        have G6 := Lib.hid g6
        have B6 := Lib.hid b6
        have HK6 := Lib.hid hk6
        have HS6 := Lib.hid hs6
        have KG6 := Lib.hid kG6
        obtain ⟨cc1, cc2, cc3, cc4, cc5, cc6, cc7, cc8⟩ := hm2
        clear hpe g6 b6 hk6 hs6 kG6 hs06 gq5'
        go_wp2
        go_region
        all_goals
          go_wp2_with fail
          go_region
          all_goals
            go_wp2
            have hc6 := chgS w6 G (.int .i64 (sm.p + 1)) (.int .i64 (sm.b + (cc : Int))) (.int .i64 (sm.l + (ll : Int)))
            have hS6 := HST.out.trans HS6.out
            refine ⟨⟨k + 1, bd6, sm.p + 1, sm.b + (cc : Int), sm.l + (ll : Int), sk6, S6, by omega, by go_num, fun e => ⟨hb0', ?_, by rw [HFT.out]; exact G6.out e, by rw [HSM1.out]; rfl, by rw [HSM1.out]; rfl, by rw [HSM1.out]; rfl⟩, B6.out, HK6.out.local G hGB hnG6 hc6.drew.drew, ⟨hS6.1.then hc6.drew.drew (fun i hi e => by have := HG.out; omega), hS6.2⟩, hnG6, blkS KG6.out _ _ _⟩, by simp [intOf]; omega⟩
            rw [(P.piece_tx (G6.out e)).2.1, List.length_append, HPL.out]
            rfl
      · have hcase : (bd = false ∧ k = N) ∨ (bd = true ∧ k < N) ∨ (bd = true ∧ k = N) := by
          cases bd
          · exact .inl ⟨rfl, by
              rcases Nat.lt_or_ge k N with h | h
              · exact absurd ⟨rfl, h⟩ hgo
              · omega⟩
          · rcases Nat.lt_or_ge k N with h | h
            · exact .inr (.inl ⟨rfl, h⟩)
            · exact .inr (.inr ⟨rfl, by omega⟩)
        have hk0 : wr.heap[w.heap.size]? = some (.cells #[.int .i64 0, .int .i64 0, .int .i64 0] 118 (0, 0)) := Wk.apart hst K04.out (hnS _ (Nat.le_refl _))
        have gG := cell_blk hbox
        have f0 := free_blk hk0
        have g0 := cell_blk hk0
        have HK0 := Lib.hid hk0
        have hnS0 : ¬ Sk w.heap.size := fun hs => hnS _ (Nat.le_refl _) (hst.2 _ (lt_of_block K04.out) hs)
        have HSPN := Lib.hid (show bd = false → SP = some (⟨x, y, z⟩, sk) from fun e => by
          obtain ⟨hb0', -, hfold, e1, e2, e3⟩ := hg e
          obtain ⟨hE0, hroot⟩ := HYES.out hb0'
          have hkN : k = N := by
            rcases Nat.lt_or_ge k N with h | h
            · exact absurd ⟨e, h⟩ hgo
            · omega
          rw [HSP.out, if_pos ⟨hE0, by rw [← HN.out]; exact hroot⟩]
          rw [hkN, HN.out, List.take_length] at hfold e1 e2 e3
          rw [hfold, e1, e2, e3]
          rfl)
        have HSPB := Lib.hid hb
        have HWB : C.B ≤ w.heap.size := HGE.out
        clear hwk hst hbox hk0 hq5 hg hb hgo
        have HFIN := Lib.hid (fun (W2 : World) (hc2 : Chg (fun k => k = w.heap.size) wr W2) => (show RSend C S vS SP w (.returned (.agg #[.int .i64 x, .int .i64 y, .int .i64 z])) W2 from by
          have hw := HWK.out.local w.heap.size HWB hnS0 hc2
          have hs0 : Stp S w Sk wr := (HS3.out.trans HS4.out).trans HST.out
          have hs2 : Stp S w Sk W2 := ⟨hs0.1.then hc2 (fun i hi e => by omega), hs0.2⟩
          cases bd
          · exact .inl ⟨_, _, Sk, HSPN.out rfl, rfl, hw, hs2⟩
          · exact .inr ⟨HSPB.out rfl, x, y, z, _, Sk, rfl, hw, hs2⟩))
        rcases hcase with ⟨rfl, rfl⟩ | ⟨rfl, hlt⟩ | ⟨rfl, rfl⟩
        all_goals
          go_wp2
          generalize hW2 : World.setCell _ ⟨w.heap.size, 2, none⟩ _ = W2
          have hc2 : Chg (fun k => k = w.heap.size) wr W2 := by
            rw [← hW2]
            exact chgS _ _ _ _ _
          have cl2 := cell_blk (show W2.heap[w.heap.size]? = some (.cells #[.int .i64 x, .int .i64 y, .int .i64 z] 118 (0, 0)) by rw [← hW2]; exact blkS HK0.out _ _ _)
          exact bodyPost_ret (v := .agg #[.int .i64 x, .int .i64 y, .int .i64 z]) (by simp [results, Tryz.results68, go_sem, cl2]) rfl (HFIN.out W2 hc2)
end Go.Proofs.YtnjpaanjgbfbaaaGreat
/- The reference's walker: tree. -/
namespace Go.Proofs.YtnjpaanjgbfbaaaGreat
set_option linter.unusedVariables false
set_option linter.unusedSimpArgs false
open Go.RowKit

theorem pgOk_free {np n : Nat} {st : P.St} {c : UInt8} (hc : c.toNat ≠ 120) : pgOk np st n c ↔ P.free? np st n = true :=
  ⟨fun h => h.elim id (fun h => absurd h.1 hc), .inl⟩
theorem below_zero (img : List UInt8) (np n : Nat) (root : Bool) (st : P.St) (hf : P.free? np st n = true) : P.below img np true 0 n root st = leafB img np (P.pg img n) root (st.hit n 3) := by
  rw [P.below]
  unfold P.leafW leafB
  by_cases h : P.pcErr (P.pg img n) = 0 ∧ (root = true ∨ 10 ≤ (P.pcL (P.pg img n)).length)
  · rw [if_pos h, if_pos ⟨hf, h⟩]
  · rw [if_neg h, if_neg (fun e => h e.2)]
theorem below_nf {img : List UInt8} {np n lv : Nat} {lim root : Bool} {st : P.St} (h : P.free? np st n = false) : P.below img np lim lv n root st = none := by
  cases lv with
  | zero => rw [P.below]; exact leafW_free h
  | succ lv => exact below_free h
theorem txok_leaf {img : List UInt8} {np n : Nat} {lim root : Bool} {st : P.St} {x : P.Sm × P.St} (h : P.leafW img np lim n root st = some x) (ht : TxOk img st) : TxOk img x.2 := by
  unfold P.leafW at h
  split at h
  · rcases h1 : (P.pcL (P.pg img n)).foldlM (P.piece img np lim) (st.hit n 3) with _ | s
    · rw [h1] at h; cases h
    · rw [h1] at h
      cases h
      exact txok_fold h1 (txok_hit ht (by omega))
  · cases h
theorem txok_below {img : List UInt8} {np : Nat} {lim : Bool} (lv : Nat) : ∀ (n : Nat) (root : Bool) (st : P.St) (x : P.Sm × P.St), P.below img np lim lv n root st = some x → TxOk img st → TxOk img x.2 := by
  induction lv with
  | zero => intro n root st x h ht; exact txok_leaf (by rw [P.below] at h; exact h) ht
  | succ lv ih =>
    intro n root st x h ht
    rw [P.below] at h
    split at h
    · refine P.foldlM_keep _ (fun a b : P.Sm × P.St => TxOk img a.2 → TxOk img b.2) (fun _ h => h) (fun _ _ _ f g h => g (f h)) (fun b a b' hb ht => ?_) _ _ _ h (txok_hit ht (by omega))
      obtain ⟨z, h1, -, rfl⟩ := P.kid_some hb
      have h2 := ih _ _ _ _ h1 ht
      exact h2
    · cases h
theorem txok_kids {img : List UInt8} {np lv : Nat} {lim : Bool} {l : List P.Q} {a b : P.Sm × P.St} (h : l.foldlM (P.kidStep (P.below img np lim lv)) a = some b) (ht : TxOk img a.2) : TxOk img b.2 := by
  refine P.foldlM_keep _ (fun a b : P.Sm × P.St => TxOk img a.2 → TxOk img b.2) (fun _ h => h) (fun _ _ _ f g h => g (f h)) (fun b a b' hb ht => ?_) _ _ _ h ht
  obtain ⟨z, h1, -, rfl⟩ := P.kid_some hb
  have h2 := txok_below lv _ _ _ _ h1 ht
  exact h2
/-- What tree does at a level. -/
def TreeIH (C : RC) (vS : Value) (lv : Nat) : Prop := ∀ (S : Nat → Prop) (st : P.St) (n : Nat) (root : Bool) (w : World), RW C S w st vS false → n < 1000000 → TxOk C.img st → st.ps.length ≤ 20 * P.cnt C.np st →
  Calls Tryz.prog 47 #[.pointer (some ⟨C.q, 0, none⟩), .int .i64 (n : Int), .int .i64 (lv : Int), .bool root] w (RSend C S vS (P.below C.img C.np true lv n root st) w)
set_option maxRecDepth 100000 in
set_option maxHeartbeats 1600000 in
/-- A page that may not be met. -/
theorem rtree_no (C : RC) (vS : Value) (lv : Nat) (S : Nat → Prop) (st : P.St) (n : Nat) (root : Bool) (w : World) (h : RW C S w st vS false) (hn : n < 1000000) (hf : P.free? C.np st n = false) :
    Calls Tryz.prog 47 #[.pointer (some ⟨C.q, 0, none⟩), .int .i64 (n : Int), .int .i64 (lv : Int), .bool root] w (RSend C S vS (P.below C.img C.np true lv n root st) w) := by
  rw [below_nf hf]
  obtain ⟨w0, hw0⟩ : ∃ w0, w0 = w.alloc (.cells #[.int .i64 0, .int .i64 0, .int .i64 0] 118) := ⟨_, rfl⟩
  have hb0 : Below w.heap.size w w0 := by rw [hw0]; exact (Below.refl _ w).alloc (Nat.le_refl _) _
  have k0 : w0.heap[w.heap.size]? = some (.cells #[.int .i64 0, .int .i64 0, .int .i64 0] 118 (0, 0)) := by rw [hw0]; exact alloc_new _ _ _ rfl
  have hnS : ∀ j, w.heap.size ≤ j → ¬ S j := fun j hj hs => by have := h.sets _ hs; omega
  have HP := Lib.hid (page_no C S st vS n 3 116 w0 (h.below hb0) hn (by omega) (by decide) (by decide) (fun e => by rw [pgOk_free (by decide), hf] at e; cases e))
  have HB0 := Lib.hid hb0
  have K0 := Lib.hid k0
  have HGE := Lib.hid h.ge
  clear h hb0 k0 hf
  go_enter Tryz.func47, Tryz.ntmps47
  go_wp2_with fail
  rw [← hw0]
  clear hw0
  refine HP.out.mono ?_
  rintro e w1 ⟨rfl, hk1, hs1⟩
  obtain ⟨vP, vT, hq⟩ := hk1.cells
  have g : w1.cell? ⟨C.q, 16, none⟩ = some (.bool true) := cell_blk hq 16
  have k1 := Wk.apart hs1 K0.out (hnS _ (Nat.le_refl _))
  have g1 := cell_blk k1
  have f1 := free_blk k1
  have HK1 := Lib.hid hk1
  have HS1 := Lib.hid hs1
  have K1 := Lib.hid k1
  clear hk1 hs1 hq k1
  go_wp2
  generalize hW2 : World.setCell _ ⟨w.heap.size, 2, none⟩ _ = W2
  have hc2 : Chg (fun k => k = w.heap.size) w1 W2 := by
    rw [← hW2]
    exact chgS _ _ _ _ _
  have cl2 := cell_blk (show W2.heap[w.heap.size]? = some (.cells #[.int .i64 0, .int .i64 0, .int .i64 0] 118 (0, 0)) by rw [← hW2]; exact blkS K1.out _ _ _)
  have hs0 : Stp S w S w1 := (Stp.below HB0.out).trans HS1.out
  exact bodyPost_ret (v := .agg #[.int .i64 0, .int .i64 0, .int .i64 0]) (by simp [results, Tryz.results47, go_sem, cl2]) rfl (.inr ⟨rfl, 0, 0, 0, _, S, rfl, HK1.out.local w.heap.size HGE.out (hnS _ (Nat.le_refl _)) hc2, ⟨hs0.1.then hc2 (fun i hi e => by omega), hs0.2⟩⟩)
set_option maxRecDepth 100000 in
set_option maxHeartbeats 1600000 in
/-- A leaf. -/
theorem rtree_leaf (C : RC) (vS : Value) (S : Nat → Prop) (st : P.St) (n : Nat) (root : Bool) (w : World) (h : RW C S w st vS false) (hn : n < 1000000) (ht : TxOk C.img st) (hps : st.ps.length ≤ 20 * P.cnt C.np st) (hf : P.free? C.np st n = true) :
    Calls Tryz.prog 47 #[.pointer (some ⟨C.q, 0, none⟩), .int .i64 (n : Int), .int .i64 0, .bool root] w (RSend C S vS (P.below C.img C.np true 0 n root st) w) := by
  rw [below_zero _ _ _ _ _ hf]
  obtain ⟨w0, hw0⟩ : ∃ w0, w0 = w.alloc (.cells #[.int .i64 0, .int .i64 0, .int .i64 0] 118) := ⟨_, rfl⟩
  have hb0 : Below w.heap.size w w0 := by rw [hw0]; exact (Below.refl _ w).alloc (Nat.le_refl _) _
  have k0 : w0.heap[w.heap.size]? = some (.cells #[.int .i64 0, .int .i64 0, .int .i64 0] 118 (0, 0)) := by rw [hw0]; exact alloc_new _ _ _ rfl
  have hnS : ∀ j, w.heap.size ≤ j → ¬ S j := fun j hj hs => by have := h.sets _ hs; omega
  have HP := Lib.hid (page_yes C S st vS n 3 116 w0 (h.below hb0) hn (by omega) (by decide) (by decide) ((pgOk_free (by decide)).2 hf))
  have HB0 := Lib.hid hb0
  have K0 := Lib.hid k0
  have HGE := Lib.hid h.ge
  have hcn := P.cnt_le C.np st
  have hnp := h.okc.2.2.2.2.2.2.1
  have hps9 : (st.hit n 3).ps.length ≤ 90000 := by show st.ps.length ≤ _; omega
  clear h hb0 k0 hf hps hcn
  obtain ⟨SP0, hSP0⟩ : ∃ SP0, SP0 = leafB C.img C.np (P.pg C.img n) root (st.hit n 3) := ⟨_, rfl⟩
  rw [← hSP0]
  have HSP0 := Lib.hid hSP0
  clear hSP0
  go_enter Tryz.func47, Tryz.ntmps47
  go_wp2_with fail
  rw [← hw0]
  clear hw0
  refine HP.out.mono ?_
  rintro e w1 ⟨p, cp, rfl, hcp, hr1, hpB, hk1, hs1⟩
  obtain ⟨vP, vT, hq⟩ := hk1.cells
  have g : w1.cell? ⟨C.q, 16, none⟩ = some (.bool false) := cell_blk hq 16
  have hl := rleaf_any C S (st.hit n 3) vS p cp _ root w1 hk1 hcp hr1 hpB hps9 (txok_hit ht (by omega))
  rw [← HSP0.out] at hl
  have HL := Lib.hid hl
  have HS1 := Lib.hid hs1
  have K1 := Lib.hid (Wk.apart hs1 K0.out (hnS _ (Nat.le_refl _)))
  clear hk1 hs1 hq hr1 hl
  go_wp2_with fail
  refine HL.out.mono ?_
  intro e w2 hend
  obtain ⟨x, y, z, st', S', bd, rfl, hk2, hs2, hfin⟩ : ∃ x y z st' S' bd, e = .returned (.agg #[.int .i64 x, .int .i64 y, .int .i64 z]) ∧ RW C S' w2 st' vS bd ∧ Stp S w1 S' w2 ∧ (∀ W2, RW C S' W2 st' vS bd → Stp S w S' W2 → RSend C S vS SP0 w (.returned (.agg #[.int .i64 x, .int .i64 y, .int .i64 z])) W2) := by
    rcases hend with ⟨x, st', S', hsp, rfl, hk, hs⟩ | ⟨hno, a, b, c, st', S', rfl, hk, hs⟩
    · exact ⟨_, _, _, st', S', false, rfl, hk, hs, fun W2 h1 h2 => .inl ⟨x, st', S', hsp, rfl, h1, h2⟩⟩
    · exact ⟨a, b, c, st', S', true, rfl, hk, hs, fun W2 h1 h2 => .inr ⟨hno, a, b, c, st', S', rfl, h1, h2⟩⟩
  have k2 := Wk.apart hs2 K1.out (hnS _ (Nat.le_refl _))
  have g2 := cell_blk k2
  have f2 := free_blk k2
  have hn2 : ¬ S' w.heap.size := fun hs => hnS _ (Nat.le_refl _) (hs2.2 _ (lt_of_block K1.out) hs)
  have HK2 := Lib.hid hk2
  have HS2 := Lib.hid hs2
  have K2 := Lib.hid k2
  have HFIN := Lib.hid hfin
  clear hend hk2 hs2 k2 hfin g
  go_wp2
  generalize hW2 : World.setCell _ ⟨w.heap.size, 2, none⟩ _ = W2
  have hc2 : Chg (fun k => k = w.heap.size) w2 W2 := by
    rw [← hW2]
    exact chgS _ _ _ _ _
  have cl2 := cell_blk (show W2.heap[w.heap.size]? = some (.cells #[.int .i64 x, .int .i64 y, .int .i64 z] 118 (0, 0)) by rw [← hW2]; exact blkS K2.out _ _ _)
  have hs0 : Stp S w S' w2 := ((Stp.below HB0.out).trans HS1.out).trans HS2.out
  exact bodyPost_ret (v := .agg #[.int .i64 x, .int .i64 y, .int .i64 z]) (by simp [results, Tryz.results47, go_sem, cl2]) rfl (HFIN.out _ (HK2.out.local w.heap.size HGE.out hn2 hc2) ⟨hs0.1.then hc2 (fun i hi e => by omega), hs0.2⟩)
end Go.Proofs.YtnjpaanjgbfbaaaGreat
