/- The walker: piece. -/
import Derived.Test.YtnjpaanjgbfbaaaGreatJ27
import Derived.Test.YtnjpaanjgbfbaaaGreatJ12
import Derived.Deep.DeepCutAuto
namespace Go.Proofs.YtnjpaanjgbfbaaaGreat
set_option linter.unusedVariables false
set_option linter.unusedSimpArgs false
open Go.RowKit

def tkF (st : P.St) : Nat → Bool := fun n => st.met n == 4
theorem Wk.textAt {C : AC} {L S : Nat → Prop} {w : World} {st : P.St} {tk : Nat → Bool} {vS : Value} (h : Wk C L S w st tk vS) (n : Nat) (hn2 : n < 1000000) (w' : World) (hb : Below w.heap.size w w') :
    ∃ v, (Instr.lookup 109 (.map (some C.t)) (.int .i64 (n : Int)) true).run Tryz.prog w' = .ok (.tuple #[v, .bool (tk n)]) w' ∧ (tk n = true → ∃ a m cp, v = .slice a m cp ∧ Rd w a m (P.txL (P.pg C.img n)) ∧ (m ≤ cp ∧ 0 < m) ∧ (∀ p, a = some p → ¬ av L S p.block ∧ p.block < w.heap.size)) := by
  obtain ⟨-, -, -, h1, h2, h3, h0, vP, vT, V, nm, nt, h4, h5, h6, h7, h8, h9, h10, h11, h12, h13⟩ := h
  have hx := h13 n
  have hl := (h11.below hb).look textT (n : Int) (wf64 _ (by omega))
  have hi : (V (n : Int)).isSome = tk n := by
    cases htk : tk n
    · rw [htk] at hx
      rw [show V (n : Int) = none from hx]
      rfl
    · rw [htk] at hx
      obtain ⟨a, m, cp, e, -⟩ := hx
      rw [e]
      rfl
  rw [hi] at hl
  refine ⟨(V (n : Int)).getD (.slice none 0 0), hl, fun e => ?_⟩
  · rw [e] at hx
    obtain ⟨a, m, cp, e, r⟩ := hx
    exact ⟨a, m, cp, by rw [e]; rfl, r⟩
theorem tkF_hit (st : P.St) (n : Nat) : tkF (st.hit n 4) = fun k => if k = n then true else tkF st k := by
  funext k
  unfold tkF P.St.hit
  by_cases e : k = n <;> simp [e]
theorem cnT_hit (np : Nat) (st : P.St) (n : Nat) (hn : n < np) (h0 : st.met n = 0) (h2 : 2 ≤ n) : cnT np (tkF (st.hit n 4)) = cnT np (tkF st) + 1 := by
  have h := P.cnt_hit np ⟨fun k => if tkF st k = true then 1 else 0, [], []⟩ n 1 (by omega) (by unfold P.free?; simp [tkF, h0, hn, h2])
  unfold cnT
  rw [← h, tkF_hit]
  congr 1
  unfold P.St.hit
  simp only
  congr 1
  funext k
  by_cases e : k = n <;> simp [e]
theorem tkF_keep (st : P.St) (n k : Nat) (h0 : st.met n = 0) (hk : k ≠ 4) : tkF (st.hit n k) = tkF st := by
  funext j
  unfold tkF P.St.hit
  by_cases e : j = n
  · subst e
    simp [h0, hk]
  · simp [e]
/-- A text is stored. -/
theorem Wk.texted {C : AC} {L S : Nat → Prop} {w : World} {st : P.St} {vS : Value} (n : Nat) (h : Wk C L S w (st.hit n 4) (tkF st) vS) (hf : P.free? C.np st n = true) {a : Option Addr} {m cp : Nat} (hr : Rd w a m (P.txL (P.pg C.img n))) (hmc : m ≤ cp ∧ 0 < m) (ha : ∀ p, a = some p → ¬ av L S p.block ∧ p.block < w.heap.size) :
    ∃ w1, (Instr.mapUpdate 109 (.map (some C.t)) (.int .i64 (n : Int)) (.slice a m cp)).run Tryz.prog w = .ok () w1 ∧ Chg (fun j => j = C.t) w w1 ∧ Wk C L S w1 (st.hit n 4) (tkF (st.hit n 4)) vS := by
  have hf2 := of_decide_eq_true hf
  obtain ⟨hd, hcl, hnp, h1, h2, h3, h0, vP, vT, V, nm, nt, h4, h5, h6, h7, h8, h9, h10, h11, h12, h13⟩ := h
  have hcn := cnT_hit C.np st n hf2.2.2 hf2.1 hf2.2.1
  have hle : cnT C.np (tkF st) ≤ C.np := P.cnt_le _ _
  obtain ⟨w1, hrun, hms, hg⟩ := h11.store textT (n : Int) (wf64 _ (by omega)) (by unfold maxLen; omega) (.slice a m cp)
  have hc1 := grown_below hg
  obtain ⟨es, ck, hmo⟩ := h11.obj
  have hq : C.q ≠ C.t := fun e => by rw [e, hmo] at h4; simp at h4
  have hp : ∀ k, vP.ownBlock = some k → ¬ k = C.t := fun k hk e => by
    rcases h5.2 with ⟨rfl, -⟩ | ⟨g, cap, cur, rfl, -, hg, -⟩
    · simp [Value.ownBlock] at hk
    · simp [Value.ownBlock] at hk
      subst hk
      rw [e, hmo] at hg
      simp at hg
  have hx : ∀ k, vT.ownBlock = some k → ¬ k = C.t := fun k hk e => by
    rcases h6.2 with ⟨rfl, -⟩ | ⟨g, cap, cur, rfl, -, hg, -⟩
    · simp [Value.ownBlock] at hk
    · simp [Value.ownBlock] at hk
      subst hk
      rw [e, hmo] at hg
      simp at hg
  have hdn : ¬ C.d = C.t := fun e => by
    obtain ⟨c, fr, hd⟩ := hd.isDev
    rw [e, hmo] at hd
    cases hd
  refine ⟨w1, hrun, hc1, hd.chg hc1 (fun j _ e => .inl (e ▸ h2.2.2.1)) hdn, hcl, hnp, fun j hj => Nat.lt_of_lt_of_le (h1 j hj) hg.size, h2, h3, h0, vP, vT, _, nm, nt + 1, (hc1.block _ (lt_of_block h4) hq).trans h4, OVc.chg h5 hc1 hp, h6.chg hc1 hx, h7, h8, h9.chg hc1 h2.2.2.2.1, h10, hms, by omega, fun k => ?_⟩
  rw [tkF_hit]
  unfold mupd
  by_cases e : k = n
  · subst e
    simp only [if_true]
    refine ⟨a, m, cp, rfl, hr.chg hc1 (fun p e ht => (ha p e).1 (.inl (ht ▸ h2.2.2.1))), hmc, fun p e => ⟨(ha p e).1, Nat.lt_of_lt_of_le (ha p e).2 hc1.size⟩⟩
  · show TxIs C L S w1 k (if k = n then true else tkF st k) _
    rw [if_neg e, if_neg (by omega)]
    exact (h13 k).chg hc1 (fun j e => e ▸ h2.2.2.1)
/-- What piece tells. -/
def PieceOk (C : AC) (L S : Nat → Prop) (st' : P.St) (vS : Value) (c l : Nat) (w : World) (e : Ending) (w' : World) : Prop :=
  (∃ S', e = .returned (.agg #[.int .i64 1, .int .i64 (c : Int), .int .i64 (l : Int)]) ∧ Wk C L S' w' st' (tkF st') vS ∧ Stp S w S' w') ∨ EndI C S w e w'
/-- A text is at hand: slot 5, the world. -/
def TxHand (C : AC) (L S : Nat → Prop) (st s1 : P.St) (vS : Value) (n : Nat) (w : World) (s5 : Value) (wx : World) : Prop :=
  ∃ a m cp, s5 = .slice a m cp ∧ Rd wx a m (P.txL (P.pg C.img n)) ∧ (m ≤ cp ∧ 0 < m) ∧ (∀ p, a = some p → ¬ av L S p.block ∧ p.block < wx.heap.size) ∧ Wk C L S wx s1 (tkF s1) vS ∧ Stp S w S wx ∧ s1.ps = st.ps ∧ s1.tx = st.tx
theorem Wk.lt {C : AC} {L S : Nat → Prop} {w : World} {st : P.St} {tk : Nat → Bool} {vS : Value} (h : Wk C L S w st tk vS) (n : Nat) (hn : st.met n ≠ 0) : n < C.np := by
  rcases Nat.lt_or_ge n C.np with h1 | h1
  · exact h1
  · exact absurd (h.2.2.2.2.2.2.1 n h1) hn
theorem Wk.sets {C : AC} {L S : Nat → Prop} {w : World} {st : P.St} {tk : Nat → Bool} {vS : Value} (h : Wk C L S w st tk vS) (j : Nat) (hj : S j) : j < w.heap.size := h.2.2.2.1 j (.inl hj)
theorem Wk.qt {C : AC} {L S : Nat → Prop} {w : World} {st : P.St} {tk : Nat → Bool} {vS : Value} (h : Wk C L S w st tk vS) : C.q ≠ C.t := fun e => by
  obtain ⟨-, -, -, h1, h2, h3, h0, vP, vT, V, nm, nt, h4, h5, h6, h7, h8, h9, h10, h11, h12, h13⟩ := h
  obtain ⟨es, ck, hmo⟩ := h11.obj
  rw [e, hmo] at h4
  simp at h4
theorem txL_pos {b : List UInt8} (h : P.txErr b = 0) : 0 < (P.txL b).length := by
  obtain ⟨h1, g1, g2, g3, g4, g5⟩ := P.txErr_zero h
  have hb : (P.openBody b).length = 248 := by have := P.openErr_len b h1; simp [P.openBody]; omega
  unfold P.txL
  rw [if_pos h, List.length_take]
  omega
theorem Rd.cut {w : World} {p : Addr} {m : Nat} {l : List UInt8} (h : Rd w (some p) m l) (b c : Nat) (hbc : b + c ≤ m) : Rd w (some (p.add b)) c (P.slice l b c) := by
  have hl := h.1
  have hm := h.2.1
  refine ⟨by simp [P.slice]; omega, by omega, fun i hi => ⟨_, rfl, ?_⟩⟩
  have hi2 : i < c := by simp [P.slice] at hi; omega
  obtain ⟨q, e, hq⟩ := h.at (b + i) (by omega)
  cases e
  rw [Addr.add_add, hq]
  congr 2
  simp [P.slice]
theorem Wk.apart {S S' : Nat → Prop} {w w' : World} {j : Nat} {o : Obj} (h : Stp S w S' w') (hk : w.heap[j]? = some o) (hj : ¬ S j) : w'.heap[j]? = some o := (h.1.block _ (lt_of_block hk) hj).trans hk
theorem blkS {w1 : World} {B : Nat} {a0 a1 a2 : Value} {t : TypeId} {fr : Nat × Nat} (h : w1.heap[B]? = some (.cells #[a0, a1, a2] t fr)) (u0 u1 u2 : Value) :
    (((w1.setCell ⟨B, 0, none⟩ u0).setCell ⟨B, 1, none⟩ u1).setCell ⟨B, 2, none⟩ u2).heap[B]? = some (.cells #[u0, u1, u2] t fr) := blk_setCell (blk_setCell (blk_setCell h 0 u0) 1 u1) 2 u2
theorem chgS (w : World) (B : Nat) (u0 u1 u2 : Value) : Chg (fun k => k = B) w (((w.setCell ⟨B, 0, none⟩ u0).setCell ⟨B, 1, none⟩ u1).setCell ⟨B, 2, none⟩ u2) := ((setCell_chg w B 0 u0).trans (setCell_chg _ B 1 u1)).trans (setCell_chg _ B 2 u2)
theorem st_add {C : AC} {s1 st' : P.St} {n b c l : Nat} {Y T6 : List UInt8} (h : (⟨s1.met, s1.ps ++ [(⟨n, b, c, l⟩ : P.Q)], s1.tx ++ P.cutP C.img ⟨n, b, c, l⟩⟩ : P.St) = st') (hY : Y = P.slice (P.txL (P.pg C.img n)) b c) (hT : T6 = s1.tx ++ Y) : (⟨s1.met, s1.ps ++ [(⟨n, b, c, l⟩ : P.Q)], T6⟩ : P.St) = st' ∧ tkF s1 = tkF st' := by
  subst hY hT
  rw [← h]
  exact ⟨rfl, rfl⟩
theorem txAt_new {C : AC} {st s1 : P.St} {n : Nat} (h : P.txAt C.img C.np st n = some s1) (ho : tkF st n = false) : P.free? C.np st n = true ∧ P.txErr (P.pg C.img n) = 0 ∧ s1 = st.hit n 4 := by
  unfold P.txAt at h
  have h4 : ¬ st.met n = 4 := by simpa [tkF] using ho
  rw [if_neg h4] at h
  split at h
  · rename_i hc
    cases h
    exact ⟨hc.1, hc.2, rfl⟩
  · cases h
theorem txAt_old {C : AC} {st s1 : P.St} {n : Nat} (h : P.txAt C.img C.np st n = some s1) (ho : tkF st n = true) : s1 = st := by
  unfold P.txAt at h
  have h4 : st.met n = 4 := by simpa [tkF] using ho
  rw [if_pos h4] at h
  cases h
  rfl
set_option maxRecDepth 100000 in
set_option maxHeartbeats 3200000 in
theorem piece_ok (C : AC) (Lo S : Nat → Prop) (st st' : P.St) (vS : Value) (n b c l : Nat) (w : World) (h : Wk C Lo S w st (tkF st) vS) (hm : P.Q.mayP ⟨n, b, c, l⟩ = true) (hps : st.ps.length ≤ 100000) (hs : P.piece C.img C.np false st ⟨n, b, c, l⟩ = some st') :
    Calls Tryz.prog 99 #[.pointer (some ⟨C.q, 0, none⟩), .agg #[.int .i64 (n : Int), .int .i64 (b : Int), .int .i64 (c : Int), .int .i64 (l : Int)]] w (PieceOk C Lo S st' vS c l w) := by
  have hmi := (P.Q.mayP_iff _).1 hm
  simp only at hmi
  unfold P.piece at hs
  simp only [Int.toNat_natCast] at hs
  obtain ⟨s1, htx1, hs2⟩ := Option.bind_eq_some_iff.1 hs
  clear hs
  split at hs2
  case isFalse => cases hs2
  rename_i hcond
  obtain ⟨hbc, hnl, -⟩ := hcond
  injection hs2 with hs
  have hnp : n < C.np := by
    unfold P.txAt at htx1
    split at htx1
    · rename_i h4
      exact h.lt n (by omega)
    · split at htx1
      · rename_i hf
        exact (of_decide_eq_true hf.1).2.2
      · cases htx1
  obtain ⟨w0, hw0⟩ : ∃ w0, w0 = (w.alloc (.cells #[.int .i64 (n : Int), .int .i64 (b : Int), .int .i64 (c : Int), .int .i64 (l : Int)] 59)).alloc (.cells #[.int .i64 0, .int .i64 0, .int .i64 0] 158) := ⟨_, rfl⟩
  have hb0 : Below w.heap.size w w0 := by rw [hw0]; exact (((Below.refl _ w).alloc (Nat.le_refl _) _).alloc (by simp) _)
  have k0 : w0.heap[w.heap.size]? = some (.cells #[.int .i64 (n : Int), .int .i64 (b : Int), .int .i64 (c : Int), .int .i64 (l : Int)] 59 (0, 0)) := by rw [hw0]; exact alloc_old (alloc_new _ _ _ rfl) _
  have k1 : w0.heap[w.heap.size + 1]? = some (.cells #[.int .i64 0, .int .i64 0, .int .i64 0] 158 (0, 0)) := by rw [hw0]; exact alloc_new _ _ _ (by simp)
  have hSt : S C.t := h.2.2.2.2.1.2.2.1
  have hqt : C.q ≠ C.t := h.qt
  have hpt : w.heap.size ≠ C.t := fun e => by have := h.sets _ hSt; omega
  have hpt1 : w.heap.size + 1 ≠ C.t := fun e => by have := h.sets _ hSt; omega
  have hnS : ∀ j, w.heap.size ≤ j → ¬ S j := fun j hj hs => by have := h.sets _ hs; omega
  have hB0 : Below w.heap.size w w0.drew := ⟨hb0.os, hb0.tape, hb0.output, hb0.size, hb0.block⟩
  obtain ⟨X, hX⟩ : ∃ X : Nat → Prop, X = fun j => j = w.heap.size ∨ j = w.heap.size + 1 := ⟨_, rfl⟩
  have hX2 : ∀ j, X j → w.heap.size ≤ j ∧ j < w0.heap.size := fun j hj => by
    rw [hX] at hj
    have hz : w0.heap.size = w.heap.size + 2 := by rw [hw0]; simp
    rcases hj with e | e <;> omega
  have hX1 : X (w.heap.size + 1) := by rw [hX]; exact .inr rfl
  have hlay := h.lay hb0 hX2
  have hD0 : Below w0.heap.size w0 w0.drew := ⟨rfl, rfl, rfl, Nat.le_refl _, fun _ _ => rfl⟩
  obtain ⟨v0, hlk, htx⟩ := hlay.textAt n (by omega) w0.drew hD0
  have H0 := Lib.hid hlay
  obtain ⟨vP, vT, hq⟩ := (h.below hb0).cells
  have hg := cell_blk hq
  have g0 := cell_blk k0
  unfold wkC at hg
  obtain ⟨okb, hokb⟩ : ∃ okb, okb = tkF st n := ⟨_, rfl⟩
  rw [← hokb] at hlk htx
  have HTX := Lib.hid htx
  have HOK := Lib.hid hokb.symm
  have HZ := Lib.hid (show w0.heap.size = w.heap.size + 2 by rw [hw0]; simp)
  have HT1 := Lib.hid htx1
  have HH := Lib.hid h
  have HS := Lib.hid hs
  have HNL := Lib.hid hnl
  clear h htx hm hq hokb htx1 hnl hlay hX hX2 hs
  go_enter Tryz.func99, Tryz.ntmps99
  go_wp2_with fail
  rw [← hw0]
  clear hw0
  go_region_held3 (fun w' => w'.cell? ⟨C.q, 23, none⟩ = some (.map (some C.t)) ∧ w'.cell? ⟨w.heap.size, 0, none⟩ = some (.int .i64 (n : Int)) ∧ (Instr.lookup 109 (.map (some C.t)) (.int .i64 (n : Int)) true).run Tryz.prog w' = .ok (.tuple #[v0, .bool okb]) w') (go_keep) (fail)
  go_upto_if 22 with (fail)
  have HD0 := Lib.hid (H0.out.below hD0)
  have K0 := Lib.hid k0
  have K1 := Lib.hid k1
  have hz0 : w0.heap.size = w.heap.size + 2 := HZ.out
  have HB0 := Lib.hid hB0
  clear k0 k1 hB0 hlk
  go_cut [5] from 12 (fun s5 wx => TxHand C (addL Lo X) S st s1 vS n w s5 wx ∧ Hid (wx.heap[w.heap.size]? = some (.cells #[.int .i64 (n : Int), .int .i64 (b : Int), .int .i64 (c : Int), .int .i64 (l : Int)] 59 (0, 0))) ∧ Hid (wx.heap[w.heap.size + 1]? = some (.cells #[.int .i64 0, .int .i64 0, .int .i64 0] 158 (0, 0))))
  case first =>
    rcases okb with _ | _
    · obtain ⟨hf, he, hs1⟩ := txAt_new HT1.out HOK.out
      subst hs1
      have HF := Lib.hid hf
      have HE0 := Lib.hid he
      clear hf he
      go_wp2_with fail
      refine (reach_ok C (addL Lo X) S st (tkF st) vS n 4 w0.drew HD0.out (by omega) (by omega) HF.out).mono ?_
      rintro e w2 h
      rcases h with ⟨v, rfl, ho, hk2, hs2⟩ | ⟨rfl, hend⟩
      · obtain ⟨a2, c2, rfl, hr2, hc2, ha2, -⟩ := ho.form
        have hpl := pg_length C.img C.np n H0.out.1.page hnp
        rw [hpl] at hr2 hc2 ⊢
        have HR2 := Lib.hid hr2
        have HK2 := Lib.hid hk2
        have HS2 := Lib.hid hs2
        clear ho hr2 hk2 hs2 ha2
        go_wp2_with fail
        refine (text_fun a2 256 c2 _ w2 HR2.out hc2).mono ?_
        rintro e w3 ⟨a3, n3, c3, rfl, hr3, hc3, ha3, hb3⟩
        rw [HE0.out]
        have hS03 : Stp S w S w3 := ((Stp.below HB0.out).trans HS2.out).trans (Stp.below hb3)
        have k03 : w3.heap[w.heap.size]? = _ := ((hb3.block _ (by have := HS2.out.1.size; simp at this; omega)).trans (HS2.out.1.block _ (by simp; omega) (hnS _ (by omega)))).trans K0.out
        have k13 : w3.heap[w.heap.size + 1]? = _ := ((hb3.block _ (by have := HS2.out.1.size; simp at this; omega)).trans (HS2.out.1.block _ (by simp; omega) (hnS _ (by omega)))).trans K1.out
        have hk3 := HK2.out.below hb3
        have hc3' : n3 ≤ c3 ∧ 0 < n3 := ⟨hc3, by have := txL_pos HE0.out; have := hr3.1; omega⟩
        have ha3' : ∀ p, a3 = some p → ¬ av (addL Lo X) S p.block ∧ p.block < w3.heap.size := fun p e => ⟨fun hs => by have := ha3 p e; have := HK2.out.2.2.2.1 _ hs; omega, hr3.lt (txL_pos HE0.out) p e⟩
        have hdr : Below w3.heap.size w3 w3.drew := ⟨rfl, rfl, rfl, Nat.le_refl _, fun _ _ => rfl⟩
        obtain ⟨w5, hrun, hc5, hk5⟩ := Wk.texted n (hk3.below hdr) HF.out (hr3.below hdr) hc3' ha3'
        obtain ⟨vP3, vT3, hq3⟩ := hk3.cells
        have hg3 := cell_blk hq3
        have g03 := cell_blk k03
        have HK5 := Lib.hid hk5
        have HC5 := Lib.hid hc5
        have HR3 := Lib.hid hr3
        have HA3 := Lib.hid ha3'
        have HS03 := Lib.hid hS03
        have K03 := Lib.hid k03
        have K13 := Lib.hid k13
        have HQ3 := Lib.hid hq3
        unfold wkC at hg3
        clear hr3 ha3 hk3 hk5 hc5 hq3 hS03 k03 k13 ha3' hg g0
        go_wp2_with (go_at_call 80; refine (right_t _).mono ?_; rintro e w4 ⟨rfl, rfl⟩)
        go_region_held3 (fun w' => w'.cell? ⟨C.q, 23, none⟩ = some (.map (some C.t)) ∧ w'.cell? ⟨w.heap.size, 0, none⟩ = some (.int .i64 (n : Int)))
          (first | go_keep | exact ⟨(World.cell?_of_block (w := w3) (a := ⟨C.q, 23, none⟩) (HC5.out.block _ (lt_of_block HQ3.out) hqt)).trans (cell_blk HQ3.out 23), (World.cell?_of_block (w := w3) (a := ⟨w.heap.size, 0, none⟩) (HC5.out.block _ (lt_of_block K03.out) hpt)).trans (cell_blk K03.out 0)⟩) (fail)
        go_wp2
        go_meet
        case rel => exact ⟨⟨a3, n3, c3, rfl, (HR3.out.below hdr).chg HC5.out (fun p e ht => (HA3.out p e).1 (.inl (ht ▸ hSt))), hc3', fun p e => ⟨(HA3.out p e).1, Nat.lt_of_lt_of_le (HA3.out p e).2 HC5.out.size⟩, HK5.out, (HS03.out.trans (Stp.below hdr)).trans (Stp.of HC5.out (fun j e => e ▸ hSt)), rfl, rfl⟩,
          Lib.hid ((HC5.out.block _ (lt_of_block K03.out) hpt).trans K03.out), Lib.hid ((HC5.out.block _ (lt_of_block K13.out) hpt1).trans K13.out)⟩
      · exact ⟨rfl, .inr (EndI.after ⟨rfl, hend⟩ (Stp.below HB0.out))⟩
    · have hs1 := txAt_old HT1.out HOK.out
      subst hs1
      obtain ⟨a, m, cp, rfl, hr, hmc, ha⟩ := HTX.out rfl
      go_wp2
      go_meet
      case rel => exact ⟨⟨a, m, cp, rfl, hr.below hD0, hmc, fun p e => ⟨(ha p e).1, Nat.lt_of_lt_of_le (ha p e).2 hD0.size⟩, HD0.out, Stp.below HB0.out, rfl, rfl⟩, K0, K1⟩
  case rest =>
    obtain ⟨⟨a, m, cp, rfl, hr, hmc, ha, hk, hst, hps1, htx1⟩, kp, ks⟩ := hcut
    have hml := hr.1
    obtain ⟨pa, rfl, -⟩ := hr.at 0 (by omega)
    have hcut := hr.cut b c (by omega)
    obtain ⟨L, hL⟩ : ∃ L, L = P.slice (P.txL (P.pg C.img n)) b c := ⟨_, rfl⟩
    rw [← hL] at hcut
    have HL := Lib.hid hL
    have HCUT := Lib.hid hcut
    have HA := Lib.hid ha
    have HR := Lib.hid hr
    have HK := Lib.hid hk
    have HST := Lib.hid hst
    have HPS := Lib.hid hps1
    have HTX1 := Lib.hid htx1
    have gp := cell_blk kp.out
    have c1 : (b : Int) ≤ (m : Int) := by omega
    have c2 : (c : Int) ≤ (m : Int) - (b : Int) := by omega
    have c3 : ¬ cp = b := by omega
    have c4 : (1 : Int) ≤ (c : Int) := by omega
    have c5 : (0 : Int) ≤ (b : Int) := by omega
    have c6 : (b : Int) + (c : Int) ≤ (m : Int) := by omega
    have c7 : (m : Int) ≤ (cp : Int) := by omega
    have c8 : (b : Int) + (c : Int) ≤ 1000 := by omega
    have c10 : (m : Int) ≤ 9223372036854775807 := by have := hr.2.1; unfold maxLen at this; omega
    clear hL hcut ha hr hk hst hps1 htx1 hml g0 hg
    have c9 : b + c - b = c := by omega
    have hLl : L.length = c := HCUT.out.1
    have HLL := Lib.hid hLl
    have HC := Lib.hid (show ((List.count (10 : UInt8) (L.take c) : Nat) : Int) = (l : Int) by
      rw [List.take_of_length_le (by omega), HL.out]
      have h := HNL.out
      simpa [P.nls, P.cutP] using h)
    clear hLl
    go_wp2_with (go_at_call 59; refine (must_t _).mono ?_; rintro e w4 ⟨rfl, rfl⟩)
    go_loop [8, 67] (fun nn i => ∃ k : Nat, k ≤ c ∧ i = .int .i64 k ∧ nn = .int .i64 ((List.count (10 : UInt8) (L.take k) : Nat) : Int)) (fun _ i => c - (intOf i).toNat)
    case atStart => exact ⟨0, by omega, rfl, by simp⟩
    case round =>
      obtain ⟨k, hk, rfl, rfl⟩ := hrel
      by_cases hlt : k < c
      · have hkl : k < L.length := by have := HLL.out; omega
        obtain ⟨pb, hpb, hcell⟩ := HCUT.out.at k hkl
        cases hpb
        have hts : L.take (k + 1) = L.take k ++ [L[k]] := by rw [List.take_succ_eq_append_getElem hkl]
        have hle : List.count (10 : UInt8) (L.take k) ≤ k := by
          have h1 := List.count_le_length (a := (10 : UInt8)) (l := L.take k)
          have h2 := List.length_take_le k L
          omega
        unfold bv at hcell
        obtain ⟨x, hx⟩ : ∃ x, x = L[k] := ⟨_, rfl⟩
        rw [← hx] at hcell hts
        by_cases h10 : x = 10
        · subst h10
          have HN := Lib.hid (show List.count (10 : UInt8) (L.take (k + 1)) = List.count (10 : UInt8) (L.take k) + 1 by rw [hts]; simp)
          have hcell' : wc.cell? ((pa.add b).add k) = some (.int .u8 10) := hcell
          generalize List.count (10 : UInt8) (L.take k) = N at *
          clear hx hts hcell
          go_wp2
          go_round
          case rel => exact ⟨k + 1, by omega, by go_num, by rw [HN.out]; go_num⟩
          case measure => simp [intOf]; omega
        · have HN := Lib.hid (show List.count (10 : UInt8) (L.take (k + 1)) = List.count (10 : UInt8) (L.take k) by rw [hts]; simp [h10])
          have hb : ((x.toNat : Int) == 10) = false := by
            have : x.toNat ≠ 10 := fun e => h10 (UInt8.toNat_inj.1 e)
            simp
            omega
          generalize List.count (10 : UInt8) (L.take k) = N at *
          clear hx hts h10
          go_wp2
          go_round
          case rel => exact ⟨k + 1, by omega, by go_num, by rw [HN.out]⟩
          case measure => simp [intOf]; omega
      · obtain rfl : c = k := by omega
        rw [HC.out]
        have q1 : ((l : Int) == (l : Int)) = true := by simp
        go_wp2_with (go_at_call 59; refine (must_t _).mono ?_; rintro e w4 ⟨rfl, rfl⟩)
        obtain ⟨vP1, vT1, kc, kP, kadd⟩ := HK.out.addP
        have gq := cell_blk kc
        unfold wkC at gq
        have n18 : ∀ o : Obj, (wc.alloc o).cell? ⟨C.q, 18, none⟩ = some vP1 := fun o => cell_blk (alloc_old kc o) 18
        have KP := Lib.hid kP
        have hR1 := fun o : World => RQ_one o 59 ⟨n, b, c, l⟩
        have HADD := Lib.hid kadd
        have KC := Lib.hid kc
        have hps2 : (s1.ps.length + 1) * 32 ≤ 140737488355328 := by rw [HPS.out]; omega
        have hps3 : s1.ps.length + 1 ≤ 140737488355328 := by omega
        have HR1 := Lib.hid hR1
        have HBW := Lib.hid (fun o : Obj => (below_of_drew ((Below.refl _ wc.drew).alloc (Nat.le_refl _) o) : Below wc.heap.size wc (wc.drew.alloc o)))
        have HB := Lib.hid (fun o : Obj => (show C.B ≤ (wc.drew.alloc o).heap.size by have := HK.out.2.2.1.2.2.2.2; have := lt_of_block KC.out; simp; omega))
        clear kc kP kadd hR1
        go_region_law ((refine step_appV piecesT _ rfl _ _ rfl C.B vP1 _ _ rfl (by exact KP.out.alloc _) (some ⟨wc.heap.size, 0, none⟩) 1 1 (qC ⟨n, b, c, l⟩) rfl (by exact HR1.out _) (qC_one _) hps2 hps3 (by exact HB.out _) ?_; intro v5 w5 ho5 hg5 hat5; obtain ⟨q5, S5, k5, st5⟩ := HADD.out _ _ _ ⟨n, b, c, l⟩ (HBW.out _) hg5 hat5 ho5; have g5 := cell_blk q5; unfold wkC at g5; have f5 := free_blk q5; obtain ⟨a5, e5, hv5, -⟩ := ho5.form; subst hv5; have K5 := Lib.hid k5; have ST5 := Lib.hid st5; clear k5 st5 ho5 hg5 hat5 q5))
        all_goals
          clear gq g5 f5 n18 gp
          generalize hwa : World.setCell w5 ⟨C.q, 18, none⟩ _ = wa at K5 ST5 ⊢
          clear hwa
          have hSS : Stp S w S5 wa := HST.out.trans ST5.out
          have kpa := Wk.apart ST5.out kp.out (hnS _ (Nat.le_refl _))
          have ksa := Wk.apart ST5.out ks.out (hnS _ (Nat.le_succ _))
          have hcut2 := HCUT.out.stp ST5.out (fun p e => by cases e; rw [add_block]; exact fun hs => (HA.out pa rfl).1 (.inl hs))
          have hnS5 : ∀ j, j < wa.heap.size → w.heap.size ≤ j → j < wc.heap.size → ¬ S5 j := fun j _ h1 h2 h3 => hnS j h1 (ST5.out.2 j h2 h3)
          have lks := lt_of_block ks.out
          have lkp := lt_of_block kp.out
          obtain ⟨vP2, vT2, kc2, kT2, kadd2⟩ := K5.out.addT
          have gq2 := cell_blk kc2
          unfold wkC at gq2
          have KT2 := Lib.hid kT2
          have HADD2 := Lib.hid kadd2
          have HB2 := Lib.hid (show C.B ≤ wa.heap.size by have := K5.out.2.2.1.2.2.2.2; have := lt_of_block kc2; omega)
          have HCUT2 := Lib.hid hcut2
          have HTL := Lib.hid (show s1.tx.length + c ≤ 140737488355328 by have := HK.out.2.2.2.2.2.1; have := congrArg List.length HPS.out; omega)
          have HTB := Lib.hid (show (s1.tx ++ L).length ≤ 248 * (s1.ps ++ [(⟨n, b, c, l⟩ : P.Q)]).length by have := HK.out.2.2.2.2.2.1; have := HLL.out; simp; omega)
          have KPA := Lib.hid kpa
          have KSA := Lib.hid ksa
          have HSS := Lib.hid hSS
          clear kc2 kT2 kadd2 hcut2 kpa ksa hSS
          go_wp2_with (at_builtin; refine wpList_app _ rfl _ _ rfl C.B vT2 _ rfl KT2.out _ _ _ L rfl HCUT2.out HTL.out HB2.out ?_)
          intro v6 wb ho6 hg6 hat6
          have hadd2 := HADD2.out
          have htb := HTB.out
          obtain ⟨q6, S6, k6, st6⟩ := hadd2 _ _ _ L (Below.refl _ wa) hg6 hat6 ho6 HTB.out
          have hT6 : ∃ T6, T6 = s1.tx ++ L := ⟨_, rfl⟩
          obtain ⟨T6, hT6⟩ := hT6
          rw [← hT6] at k6 ho6
          have HT6 := Lib.hid hT6
          have g6 := cell_blk q6
          unfold wkC at g6
          have f6 := free_blk q6
          obtain ⟨a6, e6, hv6, -⟩ := ho6.form
          subst hv6
          have lpa := lt_of_block KPA.out
          have lsa := lt_of_block KSA.out
          have K6 := Lib.hid k6
          have ST6 := Lib.hid st6
          have kpb := Wk.apart st6 KPA.out (fun hs => hnS5 _ lpa (Nat.le_refl _) lkp hs)
          have ksb := Wk.apart st6 KSA.out (fun hs => hnS5 _ lsa (Nat.le_succ _) lks hs)
          have hSf := HSS.out.trans st6
          clear k6 st6 ho6 hg6 hat6 q6 gq2 hT6 hadd2 htb
          generalize hwf : World.setCell wb ⟨C.q, 19, none⟩ _ = wf at K6 ST6 kpb ksb hSf
          have gpf := cell_blk kpb
          have gsf := cell_blk ksb
          have fsf := free_blk ksb
          have HSF := Lib.hid hSf
          have KSB := Lib.hid ksb
          have HWF := Lib.hid hwf
          clear kpb ksb hSf hwf
          go_upto_region 19 with (fail)
          rw [HWF.out]
          clear g6 f6
          go_wp2
          generalize hW2 : World.setCell _ ⟨w.heap.size + 1, 2, none⟩ _ = W2
          have hc2 : Chg (fun k => k = w.heap.size + 1) wf W2 := by
            rw [← hW2]
            exact chgS _ _ _ _ _
          have cl2 := cell_blk (show W2.heap[w.heap.size + 1]? = some (.cells #[.int .i64 1, .int .i64 (c : Int), .int .i64 (l : Int)] 158 (0, 0)) by rw [← hW2]; exact blkS KSB.out _ _ _)
          have hS6 : ¬ S6 (w.heap.size + 1) := fun hs => hnS5 _ lsa (Nat.le_succ _) lks (ST6.out.2 _ lsa hs)
          have hfin := (K6.out.local (w.heap.size + 1) (.inr hX1) hS6 hc2).unlay
          obtain ⟨hst, htk⟩ := st_add HS.out HL.out HT6.out
          rw [hst, htk] at hfin
          exact bodyPost_ret (v := .agg #[.int .i64 1, .int .i64 (c : Int), .int .i64 (l : Int)]) (by simp [results, Tryz.results99, go_sem, cl2]) rfl (.inl ⟨S6, rfl, hfin, ⟨HSF.out.1.then hc2 (fun i hi e => by omega), HSF.out.2⟩⟩)
end Go.Proofs.YtnjpaanjgbfbaaaGreat
