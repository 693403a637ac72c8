/- The walker: free. -/
import Derived.Test.YtnjpaanjgbfbaaaGreatJ01
import Derived.Test.YtnjpaanjgbfbaaaGreatJ00
import Derived.Test.YtnjpaanjgbfbaaaGreatJ26
import Derived.Test.YtnjpaanjgbfbaaaGreatJ09
import Derived.LoopN
import Derived.Test.YtnjpaanjgbfbaaaGreatJ36
import Derived.Test.YtnjpaanjgbfbaaaGreatJ30
import Derived.Test.YtnjpaanjgbfbaaaGreatJ04
namespace Go.Proofs.YtnjpaanjgbfbaaaGreat
set_option linter.unusedVariables false
set_option linter.unusedSimpArgs false
open Go.RowKit

/-- The cells of a walker at its end. -/
def wkG (C : AC) (place : Int) (vP vT vS vG : Value) : Array Value :=
  #[.pointer (some ⟨C.d, 0, none⟩), .int .i64 C.s.g, .int .i64 C.s.p, .int .i64 C.s.r, .int .i64 C.s.h, .int .i64 C.s.b, .int .i64 C.s.l, .int .i64 C.s.s, .int .i64 C.s.f,
    .int .i64 C.s.g, .int .i64 C.s.p, .int .i64 C.s.r, .int .i64 C.s.h, .int .i64 C.s.b, .int .i64 C.s.l, .int .i64 C.s.s, .int .i64 C.s.f,
    .int .i64 place, vP, vT, vS, vG, .map (some C.m), .map (some C.t)]
/-- What a walk has told: the walker, its rows, what was met; its device. -/
def Done (C : AC) (S : Nat → Prop) (w : World) (st : P.St) (place : Int) (vS vG : Value) (sl : List UInt8) (gl : List Int) : Prop :=
  Dev S w C.d C.np C.img (C.o0 + P.cnt C.np st) (C.out0.drop (P.cnt C.np st)) ∧ CleanO C.out0 (P.cnt C.np st) ∧ (C.s.p = (C.np : Int) ∧ 8 ≤ C.np ∧ C.np ≤ 4096 ∧ C.o0 ≤ 900000 ∧ C.B ≤ C.q) ∧ (∀ j, S j → j < w.heap.size) ∧ S C.q ∧ (∀ k, vG.ownBlock = some k → S k) ∧
  OB w C.B vS sl ∧ (∀ k, vS.ownBlock = some k → ¬ S k) ∧ OV w C.B 3 1 vG gl.length (ivs gl) ∧
  ∃ vP vT nm, w.heap[C.q]? = some (.cells (wkG C place vP vT vS vG) 111 (0, 0)) ∧ OV w C.B 59 4 vP st.ps.length (qCs st.ps) ∧ OB w C.B vT st.tx ∧ Mp 3 .i64 w C.m nm (metV st)
theorem Wk.done {C : AC} {L S : Nat → Prop} {w : World} {st : P.St} {tk : Nat → Bool} {vS : Value} {sl : List UInt8} (h : Wk C L S w st tk vS) (ho : OB w C.B vS sl) (hn : ∀ k, vS.ownBlock = some k → ¬ S k) : Done C S w st (-1) vS (.slice none 0 0) sl [] := by
  obtain ⟨hd, hcl, hnp, h1, h2, h3, h0, vP, vT, V, nm, nt, h4, h5, h6, h7, h8, h9, h10, h11, h12, h13⟩ := h
  exact ⟨hd.sets (fun j _ e => .inl e) h2.2.2.2.2, hcl, hnp, fun j e => h1 j (.inl e), h2.1, (fun k hk => by simp [Value.ownBlock] at hk), ho, hn, OV.nil _ _ _ _, vP, vT, nm, h4, h5, h6, h9⟩
theorem Done.below {C : AC} {S : Nat → Prop} {w w' : World} {st : P.St} {place : Int} {vS vG : Value} {sl : List UInt8} {gl : List Int} (h : Done C S w st place vS vG sl gl) (hb : Below w.heap.size w w') : Done C S w' st place vS vG sl gl := by
  obtain ⟨h1, h2, h3, h4, h5, h6, h7, h8, h9, vP, vT, nm, h10, h11, h12, h13⟩ := h
  exact ⟨h1.below hb, h2, h3, fun j e => Nat.lt_of_lt_of_le (h4 j e) hb.size, h5, h6, h7.below hb, h8, h9.below hb, vP, vT, nm, (hb.block _ (lt_of_block h10)).trans h10, h11.below hb, h12.below hb, h13.below hb⟩
theorem ivs_add (l : List Int) (x : Int) : ivs (l ++ [x]) = ivs l ++ [.int .i64 x] := by simp [ivs, iv]
theorem Done.addG {C : AC} {S : Nat → Prop} {w : World} {st : P.St} {place : Int} {vS vG : Value} {sl : List UInt8} {gl : List Int} (h : Done C S w st place vS vG sl gl) : ∃ vP vT, w.heap[C.q]? = some (.cells (wkG C place vP vT vS vG) 111 (0, 0)) ∧ OV w C.B 3 1 vG gl.length (ivs gl) ∧
    (∀ W w5 v5 x, Below w.heap.size w W → W.grownBy w5 vG.ownBlock → (v5.ownBlock = vG.ownBlock ∨ v5.ownBlock = some W.heap.size) → OV w5 C.B 3 1 v5 (gl.length + 1) (ivs gl ++ [.int .i64 x]) →
      w5.heap[C.q]? = some (.cells (wkG C place vP vT vS vG) 111 (0, 0)) ∧ ∃ S', Done C S' (w5.setCell ⟨C.q, 21, none⟩ v5) st place vS v5 sl (gl ++ [x]) ∧ Stp S w S' (w5.setCell ⟨C.q, 21, none⟩ v5)) := by
  obtain ⟨h1, h2, h3, h4, h5, h6, h7, h8, h9, vP, vT, nm, h10, h11, h12, h13⟩ := h
  refine ⟨vP, vT, h10, h9, fun W w5 v5 x hb hg hat ho => ?_⟩
  obtain ⟨es1, ck1, hm1⟩ := h13.obj
  obtain ⟨cd, fr, hdd⟩ := h1.isDev
  have hG : ∀ k, vG.ownBlock = some k → k ≠ C.q ∧ k ≠ C.m ∧ k ≠ C.d ∧ vT.ownBlock ≠ some k ∧ vP.ownBlock ≠ some k ∧ vS.ownBlock ≠ some k := fun k hk => by
    obtain ⟨c, hc⟩ := h9.kind k hk
    refine ⟨fun e => ?_, fun e => ?_, fun e => ?_, fun e => ?_, fun e => ?_, fun e => ?_⟩
    · rw [e, h10] at hc; simp at hc
    · rw [e, hm1] at hc; simp at hc
    · rw [e, hdd] at hc; simp at hc
    · obtain ⟨c2, hc2⟩ := h12.kind k e
      rw [hc2] at hc; simp at hc
    · obtain ⟨c2, hc2⟩ := h11.kind k e
      rw [hc2] at hc; simp at hc
    · obtain ⟨c2, hc2⟩ := h7.kind k e
      rw [hc2] at hc; simp at hc
  have hqm : C.q ≠ C.m := fun e => by rw [e, hm1] at h10; simp at h10
  have hqd : C.q ≠ C.d := fun e => by rw [e, hdd] at h10; simp at h10
  have hq1 : ∀ k, vT.ownBlock = some k → k ≠ C.q := fun k hk e => by
    obtain ⟨c, hc⟩ := h12.kind k hk
    rw [e, h10] at hc; simp at hc
  have hq2 : ∀ k, vP.ownBlock = some k → k ≠ C.q := fun k hk e => by
    obtain ⟨c, hc⟩ := h11.kind k hk
    rw [e, h10] at hc; simp at hc
  have hq3 : ∀ k, vS.ownBlock = some k → k ≠ C.q := fun k hk e => by
    obtain ⟨c, hc⟩ := h7.kind k hk
    rw [e, h10] at hc; simp at hc
  have hc5 : Chg (fun j => some j = vG.ownBlock) w w5 := (Chg.of_below hb _).trans (grown_chg hg)
  have hq5 : w5.heap[C.q]? = some (.cells (wkG C place vP vT vS vG) 111 (0, 0)) := (hc5.block _ (lt_of_block h10) (fun e => (hG _ e.symm).1 rfl)).trans h10
  refine ⟨hq5, fun j => S j ∨ v5.ownBlock = some j, ?_⟩
  have hcc : Chg (fun j => some j = vG.ownBlock ∨ j = C.q) w (w5.setCell ⟨C.q, 21, none⟩ v5) := (hc5.mono fun j _ e => .inl e).trans ((Chg.refl _ w5).setCell _ _ (.inr (.inr rfl)))
  have hsub : ∀ j, (some j = vG.ownBlock ∨ j = C.q) → S j := fun j e => by
    rcases e with e | e
    · exact h6 j e.symm
    · exact e ▸ h5
  have hS' : ∀ j, j < w.heap.size → (S j ∨ v5.ownBlock = some j) → S j := fun j hj e => by
    rcases e with e | e
    · exact e
    · rcases hat with e2 | e2
      · exact h6 j (by rw [← e2]; exact e)
      · rw [e2] at e
        cases e
        have := hb.size
        omega
  have hS5 : ∀ j, (S j ∨ v5.ownBlock = some j) → j < w5.heap.size := fun j e => by
    rcases e with e | e
    · exact Nat.lt_of_lt_of_le (h4 j e) hc5.size
    · obtain ⟨c, hc⟩ := ho.kind j e
      exact lt_of_block hc
  have hv5q : ∀ k, v5.ownBlock = some k → ¬ k = C.q := fun k hk e => by
    obtain ⟨c, hc⟩ := ho.kind k hk
    rw [e, hq5] at hc
    simp at hc
  refine ⟨⟨?_, h2, h3, fun j e => ?_, .inl h5, fun k hk => .inr hk, ?_, ?_, ?_, vP, vT, nm, ?_, ?_, ?_, ?_⟩, ⟨hcc.mono fun j _ e => hsub j e, hS'⟩⟩
  · exact (h1.sets (T := fun j => S j ∨ v5.ownBlock = some j) (fun j hj e => hS' j hj e) (.inl h1.mem)).chg hcc (fun j _ e => .inl (hsub j e)) (by
      rintro (e | e)
      · exact (hG _ e.symm).2.2.1 rfl
      · exact hqd e.symm)
  · have := hS5 j e
    simp [World.setCell]
    exact this
  · exact h7.chg hcc (fun k hk e => by
      rcases e with e | e
      · exact (hG k e.symm).2.2.2.2.2 hk
      · exact hq3 k hk e)
  · intro k hk e
    exact h8 k hk (hS' k (World.ownsRow.lt h7 k hk).2 e)
  · rw [ivs_add, List.length_append]
    exact OVc.chg ho (setCell_chg _ _ _ _) hv5q
  · rw [blk_setCell hq5]
    rfl
  · exact OVc.chg h11 hcc (fun k hk e => by
      rcases e with e | e
      · exact (hG k e.symm).2.2.2.2.1 hk
      · exact hq2 k hk e)
  · exact h12.chg hcc (fun k hk e => by
      rcases e with e | e
      · exact (hG k e.symm).2.2.2.1 hk
      · exact hq1 k hk e)
  · exact h13.chg hcc (by
      rintro (e | e)
      · exact (hG _ e.symm).2.1 rfl
      · exact hqm e.symm)
theorem Done.metAt {C : AC} {S : Nat → Prop} {w : World} {st : P.St} {place : Int} {vS vG : Value} {sl : List UInt8} {gl : List Int} (h : Done C S w st place vS vG sl gl) (n : Nat) (hn : n < 1000000) :
    (Instr.lookup 108 (.map (some C.m)) (.int .i64 (n : Int)) false).run Tryz.prog w = .ok (.int .i64 (st.met n : Nat)) w := by
  obtain ⟨h1, h2, h3, h4, h5, h6, h7, h8, h9, vP, vT, nm, h10, h11, h12, h13⟩ := h
  rw [h13.look1 intT (n : Int) (wf64 _ (by omega))]
  congr 1
  unfold metV
  by_cases e : st.met n = 0
  · simp [e]
  · simp [e]
/-- The pages, as they are told. -/
def pgsTo (st : P.St) (k : Nat) : List Int := ((List.range k).filter fun i => decide (0 < st.met i)).map fun i : Nat => (i : Int)
theorem pgsTo_succ (st : P.St) (k : Nat) : pgsTo st (k + 1) = if 0 < st.met k then pgsTo st k ++ [(k : Int)] else pgsTo st k := by
  unfold pgsTo
  rw [List.range_succ, List.filter_append, List.map_append]
  by_cases h : 0 < st.met k
  · rw [if_pos h]; simp [h]
  · rw [if_neg h]; simp [h]
theorem pgsTo_length (st : P.St) (k : Nat) : (pgsTo st k).length ≤ k := by
  unfold pgsTo
  rw [List.length_map]
  have h := List.length_filter_le (fun i => decide (0 < st.met i)) (List.range k)
  rw [List.length_range] at h
  exact h
def freeW (C : AC) (nf : Nat) (st : P.St) : Option P.St := (P.chainW C.img C.np (C.np + 1) nf [] st).bind fun c => if P.freeOk C.np c.1 c.2 = true then some c.2 else none
/-- How free ends. -/
def FrEnd (C : AC) (S : Nat → Prop) (vS : Value) (sl : List UInt8) (spec : Option P.St) (w : World) (e : Ending) (w' : World) : Prop :=
  (∃ st' S' vG, spec = some st' ∧ e = .returned (.tuple #[]) ∧ Done C S' w' st' (-1) vS vG sl (pgsTo st' C.np) ∧ Stp S w S' w') ∨ (spec = none ∧ EndC C S w e w') ∨ EndI C S w e w'
theorem shr8 (a n : Nat) (ha : a < 256) : ((a : Int) / 2 ^ n) = ((a / 2 ^ n : Nat) : Int) := by norm_cast
set_option maxRecDepth 100000 in
set_option maxHeartbeats 3200000 in
theorem free_any (C : AC) (Lo S : Nat → Prop) (st : P.St) (vS : Value) (sl : List UInt8) (nf : Nat) (w : World) (h : Wk C Lo S w st (tkF st) vS) (hf : C.s.f = (nf : Int)) (hnf : nf < 1000000) (ho : OB w C.B vS sl) (hnS : ∀ k, vS.ownBlock = some k → ¬ S k) :
    Calls Tryz.prog 63 #[.pointer (some ⟨C.q, 0, none⟩)] w (FrEnd C S vS sl (freeW C nf st) w) := by
  obtain ⟨vP, vT, hq⟩ := h.cells
  have g := cell_blk hq
  unfold wkC at g
  rw [hf] at g
  have HC := Lib.hid (chain_any C Lo S st vS nf w h hnf)
  have H := Lib.hid h
  clear h hq hf
  go_enter Tryz.func63, Tryz.ntmps63
  go_wp2_with fail
  refine HC.out.mono ?_
  rintro e w2 (⟨b, s2, S2, v, hch, rfl, hob, hown, hk2, hs2⟩ | ⟨hno, h⟩ | h)
  rotate_left
  · obtain ⟨rfl, h⟩ := h
    exact ⟨rfl, .inr (.inl ⟨by unfold freeW; rw [hno]; rfl, ⟨rfl, h⟩⟩)⟩
  · obtain ⟨rfl, h⟩ := h
    exact ⟨rfl, .inr (.inr ⟨rfl, h⟩)⟩
  have HDN := Lib.hid (hk2.done (ho.chg hs2.1 hnS) (fun k hk e => hnS k hk (hs2.2 k (World.ownsRow.lt ho k hk).2 e)))
  have HEC := Lib.hid (EndC.after hk2.endC hs2)
  have HBAD := Lib.hid (fun (e : P.freeOk C.np b s2 = false) => show freeW C nf st = none by unfold freeW; rw [hch]; simp only [Option.bind_some]; rw [e]; rfl)
  have HGOOD := Lib.hid (fun (e : P.freeOk C.np b s2 = true) => show freeW C nf st = some s2 by unfold freeW; rw [hch]; simp only [Option.bind_some]; rw [if_pos e])
  clear ho hnS
  obtain ⟨a2, c2, rfl, hr2, -⟩ := hob.form
  obtain ⟨vP2, vT2, hq2⟩ := hk2.cells
  have g2 := cell_blk hq2
  have hcp : C.s.p = (C.np : Int) := hk2.2.2.1.1
  have hnp := hk2.2.2.1
  unfold wkC at g2
  rw [hcp] at g2
  obtain ⟨N, hN⟩ : ∃ N, N = b.length := ⟨_, rfl⟩
  rw [← hN] at hr2 hob hown ⊢
  have HN := Lib.hid hN
  have HK2 := Lib.hid hk2
  have HS2 := Lib.hid hs2
  have HR2 := Lib.hid hr2
  have hlook := fun (n : Nat) (hn : n < 1000000) => hk2.metAt n hn
  have HLOOK := Lib.hid hlook
  have HCH := Lib.hid hch
  have n1 : (8 : Int) ≤ (C.np : Int) := by omega
  have n2 : (C.np : Int) ≤ 4096 := by omega
  obtain ⟨M, hM⟩ : ∃ M, M = (C.np + 7) / 8 := ⟨_, rfl⟩
  have hNd : ((C.np : Int) + 7) / 8 = (M : Int) := by omega
  have M1 : M ≤ 600 := by omega
  have HM := Lib.hid hM
  clear hN hk2 hs2 hr2 hlook hch hq2 g hcp hnp hob hM
  by_cases hlen : N = M
  rotate_left
  · have q1 : ((N : Int) == (M : Int)) = false := by simp; omega
    have HB := Lib.hid (HBAD.out (by unfold P.freeOk; rw [decide_eq_false (by rw [← HN.out, ← HM.out]; exact hlen)]; rfl))
    clear hlen
    go_wp2_with (go_at_call 59; refine (must_f _).mono ?_; rintro e w5 ⟨rfl, rfl⟩)
    exact ⟨rfl, .inr (.inl ⟨HB.out, HEC.out⟩)⟩
  subst hlen
  have q1 : ((N : Int) == (N : Int)) = true := by simp
  go_wp2_with (go_at_call 59; refine (must_t _).mono ?_; rintro e w5 ⟨rfl, rfl⟩)
  go_loop [27] (fun i => ∃ k : Nat, k ≤ 8 * N ∧ i = .int .i64 k ∧ ∀ j, j < k → P.bitAt b j = (decide (j < 2) || decide (0 < s2.met j))) (fun i => 8 * N - (intOf i).toNat)
  case atStart => exact ⟨0, by omega, rfl, fun j hj => by omega⟩
  case round =>
    obtain ⟨k, hk, rfl, hall⟩ := hrel
    by_cases hlt : k < 8 * N
    · have hkl : k / 8 < b.length := by rw [← HN.out]; omega
      obtain ⟨pa, hpa, hcell⟩ := HR2.out.at (k / 8) hkl
      subst hpa
      obtain ⟨x, hx⟩ : ∃ x, x = b[k / 8] := ⟨_, rfl⟩
      rw [← hx] at hcell
      unfold bv at hcell
      obtain ⟨K8, hK8⟩ : ∃ K8, K8 = k / 8 := ⟨_, rfl⟩
      obtain ⟨R8, hR8⟩ : ∃ R8, R8 = k % 8 := ⟨_, rfl⟩
      have hd1 : (k : Int) / 8 = (K8 : Int) := by omega
      have hd2 : (k : Int) % 8 = (R8 : Int) := by omega
      have hd3 : (0 : Int) ≤ (K8 : Int) := by omega
      have hd4 : (K8 : Int) < (N : Int) := by omega
      have hd5 : (R8 : Int) < 8 := by omega
      have hla := HLOOK.out k (by omega)
      rw [← hK8] at hcell
      have hbit : (bits BinOp.and IntKind.u8 ((x.toNat : Int) / 2 ^ R8) 1 == 1) = P.bitAt b k := by
        have hx8 := x.toNat_lt
        have e1 : ((x.toNat : Int) / 2 ^ R8) = ((x.toNat / 2 ^ R8 : Nat) : Int) := shr8 _ _ hx8
        have e2 := and8 (x.toNat / 2 ^ R8) 1 (Nat.lt_of_le_of_lt (Nat.div_le_self _ _) hx8) (by omega)
        rw [e1]
        have e3 : bits BinOp.and IntKind.u8 ((x.toNat / 2 ^ R8 : Nat) : Int) 1 = ((x.toNat / 2 ^ R8 % 2 : Nat) : Int) := by
          have h := e2
          rw [Nat.and_one_is_mod] at h
          exact h
        rw [e3]
        unfold P.bitAt
        have hgd : b.getD (k / 8) 0 = x := by rw [hx]; simp [List.getD, hkl]
        rw [hgd, ← hR8]
        rcases Nat.mod_two_eq_zero_or_one (x.toNat / 2 ^ R8) with h | h <;> rw [h] <;> rfl
      have HNO := Lib.hid (fun (e : (P.bitAt b k == (decide (k < 2) || decide (0 < s2.met k))) = false) => HBAD.out (by
        unfold P.freeOk
        have : ((List.range (8 * b.length)).all fun i => P.bitAt b i == (decide (i < 2) || decide (0 < s2.met i))) = false := by
          rw [List.all_eq_false]
          exact ⟨k, by rw [List.mem_range]; rw [← HN.out]; exact hlt, by rw [e]; simp⟩
        rw [this, Bool.and_false]))
      have HYES := Lib.hid (fun (e : P.bitAt b k = (decide (k < 2) || decide (0 < s2.met k))) => (fun j hj => by
        rcases Nat.lt_or_ge j k with h | h
        · exact hall j h
        · obtain rfl : j = k := by omega
          exact e : ∀ j, j < k + 1 → P.bitAt b j = (decide (j < 2) || decide (0 < s2.met j))))
      have HMET := Lib.hid hla
      obtain ⟨mt, hmt⟩ : ∃ mt, mt = s2.met k := ⟨_, rfl⟩
      rw [← hmt] at HNO HYES hla
      have hmt0 : (0 : Int) ≤ (mt : Int) := by omega
      clear hx hall hK8 hR8 hmt hkl
      generalize P.bitAt b k = bt at hbit HNO HYES
      by_cases c1 : k < 2 <;> by_cases c2' : 0 < mt <;> cases bt
      all_goals
        first | (have d1 : decide ((k : Int) < 2) = true := decide_eq_true (by omega)) | (have d1 : decide ((k : Int) < 2) = false := decide_eq_false (by omega))
        first | (have d2 : decide (0 < mt) = true := decide_eq_true c2') | (have d2 : decide (0 < mt) = false := decide_eq_false c2')
        first | (have d3 : decide (k < 2) = true := decide_eq_true c1) | (have d3 : decide (k < 2) = false := decide_eq_false c1)
        rw [d2, d3] at HNO HYES
        first
          | (have hy := HYES.out rfl
             have HY := Lib.hid hy
             clear hy d2 d3
             go_wp2_with (go_at_call 59; refine (must_t _).mono ?_; rintro e w5 ⟨rfl, rfl⟩)
             go_round
             case rel => exact ⟨k + 1, by omega, by go_num, HY.out⟩
             case measure => simp [intOf]; omega)
          | (have hy := HNO.out rfl
             have HY := Lib.hid hy
             clear hy d2 d3
             go_wp2_with (go_at_call 59; refine (must_f _).mono ?_; rintro e w5 ⟨rfl, rfl⟩)
             exact ⟨rfl, .inr (.inl ⟨HY.out, HEC.out⟩)⟩)
    · obtain rfl : k = 8 * N := by omega
      have hok : P.freeOk C.np b s2 = true := by
        unfold P.freeOk
        rw [decide_eq_true (by rw [← HN.out, ← HM.out]), Bool.true_and, List.all_eq_true]
        intro j hj
        rw [List.mem_range, ← HN.out] at hj
        rw [hall j hj]
        simp
      have HSP := Lib.hid (HGOOD.out hok)
      clear hall hok
      go_wp2
      go_loopw [60] (fun i wr => ∃ (k : Nat) (Sk : Nat → Prop) (vG : Value), k ≤ C.np ∧ i = .int .i64 k ∧ Done C Sk wr s2 (-1) vS vG sl (pgsTo s2 k) ∧ Stp S2 w2 Sk wr) (fun i _ => C.np - (intOf i).toNat)
      case atStart => exact ⟨0, S2, _, by omega, rfl, HDN.out, Stp.refl _ _⟩
      case round =>
        obtain ⟨k, Sk, vG, hkk, rfl, hdn, hst⟩ := hrel
        by_cases hlt2 : k < C.np
        · obtain ⟨vP3, vT3, hq3, hG3, hadd⟩ := hdn.addG
          have hla := hdn.metAt k (by omega)
          have g3 := cell_blk hq3
          unfold wkG at g3
          have HD3 := Lib.hid hdn
          have HST := Lib.hid hst
          have hps := pgsTo_succ s2 k
          have hpl := pgsTo_length s2 k
          have i1 : (k : Int) < (C.np : Int) := by omega
          by_cases hm : 0 < s2.met k
          · rw [if_pos hm] at hps
            have HPS := Lib.hid hps
            have HADD := Lib.hid hadd
            have HG3 := Lib.hid hG3
            have HQ3 := Lib.hid hq3
            have n21 : ∀ o : Obj, (wr.alloc o).cell? ⟨C.q, 21, none⟩ = some vG := fun o => cell_blk (alloc_old hq3 o) 21
            have HBW := Lib.hid (fun o : Obj => ((Below.refl _ wr).alloc (Nat.le_refl _) o : Below wr.heap.size wr (wr.alloc o)))
            have HB := Lib.hid (fun o : Obj => (show C.B ≤ (wr.alloc o).heap.size by have := HD3.out.2.2.1.2.2.2.2; have := lt_of_block HQ3.out; simp; omega))
            have HR1 := Lib.hid (show RV (wr.alloc (.cells #[.int .i64 (k : Int)] 3)) (some ⟨wr.heap.size, 0, none⟩) 1 1 [.int .i64 (k : Int)] from RV_lit wr 3 1 1 [.int .i64 (k : Int)] rfl (by unfold maxLen; omega))
            obtain ⟨mt, hmt⟩ : ∃ mt, mt = s2.met k := ⟨_, rfl⟩
            rw [← hmt] at hla hm
            have d2 : decide (0 < mt) = true := decide_eq_true hm
            clear hps hadd hG3 hq3 hdn hst hmt
            go_wp2_with (at_builtin; refine wpList_appV intsT _ rfl _ _ rfl C.B vG _ _ rfl (HG3.out.alloc _) _ _ _ _ rfl HR1.out (fun u hu => by simp at hu; subst hu; rfl) ?c1 ?c2 (HB.out _) ?_)
            case c1 => omega
            case c2 => omega
            intro v5 w5 ho5 hg5 hat5
            obtain ⟨q5, S5, k5, st5⟩ := HADD.out _ _ _ (k : Int) (HBW.out _) hg5 (by rw [show (wr.alloc (.cells #[.int .i64 (k : Int)] 3)).heap.size = wr.heap.size + 1 by simp]; exact hat5) ho5
            rw [← HPS.out] at k5
            have g5 := cell_blk q5
            unfold wkG at g5
            have f5 := free_blk q5
            obtain ⟨a5, e5, hv5, -⟩ := ho5.form
            subst hv5
            have K5 := Lib.hid k5
            have ST5 := Lib.hid st5
            clear k5 st5 ho5 hg5 hat5 q5 g3
            go_wp2
            exact ⟨⟨k + 1, S5, _, by omega, by go_num, K5.out, HST.out.trans ST5.out⟩, by simp [intOf]; omega⟩
          · rw [if_neg hm] at hps
            have HPS := Lib.hid hps
            obtain ⟨mt, hmt⟩ : ∃ mt, mt = s2.met k := ⟨_, rfl⟩
            rw [← hmt] at hla hm
            have d2 : decide (0 < mt) = false := decide_eq_false hm
            clear hps hadd hG3 hq3 hdn hst hmt
            go_wp2
            exact ⟨⟨k + 1, Sk, vG, by omega, by go_num, by rw [HPS.out]; exact HD3.out, HST.out⟩, by simp [intOf]; omega⟩
        · obtain rfl : k = C.np := by omega
          have HD3 := Lib.hid hdn
          have HST := Lib.hid hst
          clear hdn hst
          go_wp2
          go_end0
          exact .inl ⟨s2, Sk, vG, HSP.out, rfl, HD3.out, HS2.out.trans HST.out⟩
end Go.Proofs.YtnjpaanjgbfbaaaGreat
/- The walker: walk. -/
namespace Go.Proofs.YtnjpaanjgbfbaaaGreat
set_option linter.unusedVariables false
set_option linter.unusedSimpArgs false
open Go.RowKit

theorem walk1_idle (p : Addr) (w : World) :
    CallsD Tryz.prog 58 #[.pointer (some p)] .returning w fun e u' w' => e = .returned (.tuple #[]) ∧ u' = .returning ∧ w' = w := by
  refine callsD_of_wpS Tryz.func58 rfl fun c₀ cs hu => ?_
  apply wpS_seq
  apply wpS_region
  simp [wpOpsS, go_sem, recoverD, hu, Tryz.ntmps58, Exit.thenS]
  apply wpS_seq
  apply wpS_region
  simp [wpOpsS, go_sem, Exit.thenS]
  refine wpS_cond (t := false) (by simp [Act.eval, Array.replicate]) ?_
  simp only [Bool.false_eq_true, if_false]
  refine wpS_of_wp (wp_skip ?_)
  cases c₀
  simp_all [bodyPostS, results, Tryz.results58]
set_option maxRecDepth 100000 in
theorem ta_errno (k : Int) (w : World) : (Instr.typeAssert (.iface 29 (.int .i64 k)) 20 29 true).run Tryz.prog w = .ok (.tuple #[.int .i64 k, .bool true]) w := by
  simp [Instr.typeAssert, run_underlying Tryz.underlying29, go_sem, Result.andThen]
set_option maxRecDepth 100000 in
set_option maxHeartbeats 1600000 in
theorem walk1_catch (g : Nat) (k x : Int) (older : List PanicEntry) (w : World) (hc : w.cell? ⟨g, 0, none⟩ = some (.int .i64 x)) (hz : w.frozen? ⟨g, 0, none⟩ = false) :
    CallsD Tryz.prog 58 #[.pointer (some ⟨g, 0, none⟩)] (.panicking ({ v := .iface 29 (.int .i64 k), recovered := false } :: older)) w fun e u' w' =>
      e = .returned (.tuple #[]) ∧ u' = .panicking ({ v := .iface 29 (.int .i64 k), recovered := true } :: older) ∧ w' = w.setCell ⟨g, 0, none⟩ (.int .i64 k) := by
  have hta := ta_errno k
  refine callsD_of_wpS Tryz.func58 rfl fun c₀ cs hu => ?_
  apply wpS_seq
  apply wpS_region
  simp [wpOpsS, go_sem, recoverD, hu, Tryz.ntmps58, Exit.thenS]
  apply wpS_seq
  apply wpS_region
  simp [wpOpsS, go_sem, Exit.thenS]
  refine wpS_cond (t := true) (by simp [Act.eval, Array.replicate]) ?_
  simp only [if_true]
  apply wpS_seq
  apply wpS_region
  simp [wpOpsS, go_sem, hta, Exit.thenS]
  apply wpS_seq
  apply wpS_seq
  apply wpS_region
  simp [wpOpsS, go_sem, Exit.thenS]
  refine wpS_cond (t := false) (by simp [Act.eval, Array.replicate]) ?_
  simp only [Bool.false_eq_true, if_false]
  refine wpS_of_wp (wp_skip ?_)
  simp only [Exit.thenS]
  apply wpS_region
  simp [wpOpsS, go_sem, hc, hz, bodyPostS, results, Tryz.results58]
/-- A variable of one int is none of a device's blocks. -/
theorem Dev.box {S : Nat → Prop} {w : World} {d np ops j : Nat} {img outs : List UInt8} {x : Int} {t : TypeId} {fr : Nat × Nat} (h : Dev S w d np img ops outs) (hj : w.heap[j]? = some (.cells #[.int .i64 x] t fr)) (y : Int) : Dev S (w.setCell ⟨j, 0, none⟩ (.int .i64 y)) d np img ops outs := by
  obtain ⟨vl, gn, cn, vw, ao, no, co, h1, h2, h3, h4, h5, h6, h7, h8, h9, h10, h11, h12⟩ := h
  have hdj : d ≠ j := fun e => by
    rw [e, hj] at h1
    unfold dvC at h1
    simp at h1
  have hgj : gn ≠ j := fun e => by
    have hl := h2.1
    obtain ⟨q, e', hq⟩ := h2.2.2 1 (by omega)
    cases e'
    have ea : (⟨gn, 0, none⟩ : Addr).add 1 = ⟨gn, 1, none⟩ := rfl
    rw [ea, e, cell_blk hj] at hq
    simp at hq
  have hb : ∀ k, k ≠ j → (w.setCell ⟨j, 0, none⟩ (.int .i64 y)).heap[k]? = w.heap[k]? := fun k hk => Below.heap_setCell _ _ _ _ hk
  refine ⟨vl, gn, cn, vw, ao, no, co, (hb d hdj).trans h1, h2.of_cells fun p e i hi => ?_, h3, h4, h5.of_cells fun p e i hi => ?_, h6, h7, h8, h9, h10, h11, h12⟩
  · cases e
    exact World.cell?_of_block (w := w) (hb _ (by rw [add_block]; exact hgj))
  · obtain ⟨q, e', hq⟩ := h5.2.2 i hi
    rw [e] at e'; cases e'
    refine World.cell?_of_block (w := w) (hb _ (fun ej => ?_))
    unfold World.cell? at hq
    rw [ej, hj] at hq
    rcases ho : (p.add i).off with _ | o
    · rw [ho] at hq
      simp [bv] at hq
    · rw [ho] at hq
      simp at hq
/-- What a walk tells: the state, what was reached. -/
def walkSpec (C : AC) : Option (List UInt8 × P.St) :=
  if C.s.p = (C.np : Int) then
    (P.treeW C.img C.np false C.s P.St.new).bind fun s1 => (P.chainW C.img C.np (C.np + 1) C.s.s.toNat [] s1).bind fun c1 => (freeW C C.s.f.toNat c1.2).map fun s3 => (c1.1, s3)
  else none
/-- How walk ends. -/
def WlkEnd (C : AC) (S : Nat → Prop) (w : World) (e : Ending) (w' : World) : Prop :=
  (∃ st' S' vS vG sl, walkSpec C = some (sl, st') ∧ e = .returned (.int .i64 0) ∧ Done C S' w' st' (-1) vS vG sl (pgsTo st' C.np) ∧ Stp S w S' w') ∨
  (walkSpec C = none ∧ e = .returned (.int .i64 8) ∧ ∃ S' k, k ≤ C.np ∧ Dev S' w' C.d C.np C.img (C.o0 + k) (C.out0.drop k) ∧ CleanO C.out0 k ∧ Stp S w S' w') ∨
  (e = .returned (.int .i64 7) ∧ ∃ S' k, k < C.np ∧ Dev S' w' C.d C.np C.img (C.o0 + k + 1) (C.out0.drop (k + 1)) ∧ CleanO C.out0 k ∧ lostO (C.out0.drop k) = true ∧ Stp S w S' w')
end Go.Proofs.YtnjpaanjgbfbaaaGreat
/- The walker: walk. -/
namespace Go.Proofs.YtnjpaanjgbfbaaaGreat
set_option linter.unusedVariables false
set_option linter.unusedSimpArgs false
open Go.RowKit

theorem wlk_c {C : AC} {S S' : Nat → Prop} {w w0 w' : World} {k : Nat} {t : TypeId} {fr : Nat × Nat} (hb0 : Below w.heap.size w w0) (hsp : walkSpec C = none) (hk : k ≤ C.np) (hd : Dev S' w' C.d C.np C.img (C.o0 + k) (C.out0.drop k)) (hc : CleanO C.out0 k) (hs : Stp S w0 S' w')
    (kb : w'.heap[w.heap.size]? = some (.cells #[.int .i64 0] t fr)) : WlkEnd C S w (.returned (.int .i64 8)) (w'.setCell ⟨w.heap.size, 0, none⟩ (.int .i64 8)) := by
  have T := (Stp.below hb0).trans hs
  exact .inr (.inl ⟨hsp, rfl, S', k, hk, hd.box kb 8, hc, ⟨T.1.then (setCell_chg _ _ _ _) (fun i hi e => by omega), T.2⟩⟩)
theorem wlk_i {C : AC} {S S' : Nat → Prop} {w w0 w' : World} {k : Nat} {t : TypeId} {fr : Nat × Nat} (hb0 : Below w.heap.size w w0) (hk : k < C.np) (hd : Dev S' w' C.d C.np C.img (C.o0 + k + 1) (C.out0.drop (k + 1))) (hc : CleanO C.out0 k) (hl : lostO (C.out0.drop k) = true) (hs : Stp S w0 S' w')
    (kb : w'.heap[w.heap.size]? = some (.cells #[.int .i64 0] t fr)) : WlkEnd C S w (.returned (.int .i64 7)) (w'.setCell ⟨w.heap.size, 0, none⟩ (.int .i64 7)) := by
  have T := (Stp.below hb0).trans hs
  exact .inr (.inr ⟨rfl, S', k, hk, hd.box kb 7, hc, hl, ⟨T.1.then (setCell_chg _ _ _ _) (fun i hi e => by omega), T.2⟩⟩)
theorem tree_any (C : AC) (Lo S : Nat → Prop) (st : P.St) (vS : Value) (w : World) (h : Wk C Lo S w st (tkF st) vS) (hv : C.s.chk = 0) (hps : st.ps.length ≤ 20 * P.cnt C.np st) :
    Calls Tryz.prog 61 #[.pointer (some ⟨C.q, 0, none⟩)] w (NoEnd C Lo S vS (P.treeW C.img C.np false C.s st) w) := by
  have hm := C.s.may_iff
  have hmay : C.s.may = true := by
    rcases C.s.chk_cases with ⟨m, -⟩ | ⟨-, e⟩
    · exact m
    · rw [hv] at e; cases e
  obtain ⟨-, g2, g3, -, -, g6, g7, -⟩ := hm.1 hmay
  by_cases hr : C.s.r = 0
  · exact tree_zero C Lo S st vS w h hr
  · have hh : C.s.h ≠ 0 := fun e => hr (g7.1 e)
    exact tree_some C Lo S st vS C.s.r.toNat (C.s.h.toNat - 1) w h (by omega) (by omega) (by omega) (by omega) (by omega) hps
theorem supF {x : P.Sup} (hv : x.chk = 0) : (∃ n : Nat, x.s = (n : Int) ∧ n < 1000000) ∧ (∃ n : Nat, x.f = (n : Int) ∧ n < 1000000) := by
  obtain ⟨-, -, -, -, -, -, b1, b2⟩ := P.Sup.bounds hv
  exact ⟨⟨x.s.toNat, by omega, by omega⟩, ⟨x.f.toNat, by omega, by omega⟩⟩
theorem Wk.state {C : AC} {L S : Nat → Prop} {w : World} {st : P.St} {tk : Nat → Bool} {vS : Value} (h : Wk C L S w st tk vS) (v : Value) : Wk C L S (w.setCell ⟨C.q, 20, none⟩ v) st tk v ∧ Stp S w S (w.setCell ⟨C.q, 20, none⟩ v) := by
  obtain ⟨hd, hcl, hnp, h1, h2, h3, h0, vP, vT, V, nm, nt, h4, h5, h6, h7, h8, h9, h10, h11, h12, h13⟩ := h
  have hc := setCell_chg w C.q 20 v
  obtain ⟨es1, ck1, hm1⟩ := h9.obj
  obtain ⟨es2, ck2, hm2⟩ := h11.obj
  obtain ⟨cd, fr, hdd⟩ := hd.isDev
  have hqm : C.m ≠ C.q := fun e => by rw [← e, hm1] at h4; simp at h4
  have hqt : C.t ≠ C.q := fun e => by rw [← e, hm2] at h4; simp at h4
  have hqd : C.d ≠ C.q := fun e => by rw [← e, hdd] at h4; simp at h4
  have hq1 : ∀ k, vT.ownBlock = some k → ¬ k = C.q := fun k hk e => by
    obtain ⟨c, hc⟩ := h6.kind k hk
    rw [e, h4] at hc; simp at hc
  have hq2 : ∀ k, vP.ownBlock = some k → ¬ k = C.q := fun k hk e => by
    obtain ⟨c, hc⟩ := h5.kind k hk
    rw [e, h4] at hc; simp at hc
  refine ⟨⟨hd.chg hc (fun j _ e => .inl (e ▸ h2.1)) hqd, hcl, hnp, fun j e => Nat.lt_of_lt_of_le (h1 j e) hc.size, h2, h3, h0, vP, vT, V, nm, nt, ?_, OVc.chg h5 hc hq2, h6.chg hc hq1, h7, h8, h9.chg hc hqm, h10, h11.chg hc hqt, h12, fun n => (h13 n).chg hc (fun j e => e ▸ h2.1)⟩, ⟨hc.mono fun j _ e => e ▸ h2.1, fun j _ e => e⟩⟩
  rw [blk_setCell h4]
  rfl
theorem Done.box {C : AC} {S : Nat → Prop} {w : World} {st : P.St} {place : Int} {vS vG : Value} {sl : List UInt8} {gl : List Int} {j : Nat} {x : Int} {fr : Nat × Nat} (h : Done C S w st place vS vG sl gl) (hj : w.heap[j]? = some (.cells #[.int .i64 x] 29 fr)) (y : Int) : Done C S (w.setCell ⟨j, 0, none⟩ (.int .i64 y)) st place vS vG sl gl := by
  obtain ⟨h1, h2, h3, h4, h5, h6, h7, h8, h9, vP, vT, nm, h10, h11, h12, h13⟩ := h
  have hc := setCell_chg w j 0 (.int .i64 y)
  have hV : ∀ {t : TypeId} {s : Nat} {v : Value} {n : Nat} {l : List Value}, OV w C.B t s v n l → t ≠ 29 → ∀ k, v.ownBlock = some k → ¬ k = j := fun h ht k hk e => by
    obtain ⟨c, hc⟩ := OV.kind h k hk
    rw [e, hj] at hc
    simp at hc
    exact ht hc.2.1.symm
  have hB : ∀ {v : Value} {l : List UInt8}, OB w C.B v l → ∀ k, v.ownBlock = some k → ¬ k = j := fun h k hk e => by
    obtain ⟨c, hc⟩ := OB.kind h k hk
    rw [e, hj] at hc
    simp at hc
  have hq : C.q ≠ j := fun e => by rw [e, hj] at h10; simp at h10
  have hm : C.m ≠ j := fun e => by obtain ⟨es, ck, ho⟩ := h13.obj; rw [e, hj] at ho; cases ho
  exact ⟨h1.box hj y, h2, h3, fun k e => Nat.lt_of_lt_of_le (h4 k e) hc.size, h5, h6, h7.chg hc (hB h7), h8, OVc.chg h9 hc (hV h9 (by decide)), vP, vT, nm, (hc.block _ (lt_of_block h10) hq).trans h10, OVc.chg h11 hc (hV h11 (by decide)), h12.chg hc (hB h12), h13.chg hc hm⟩
set_option maxRecDepth 100000 in
set_option maxHeartbeats 3200000 in
theorem walk_ok (C : AC) (S : Nat → Prop) (w : World) (h : Wk C (fun _ => False) S w P.St.new (tkF P.St.new) (.slice none 0 0)) (hv : C.s.chk = 0) :
    Calls Tryz.prog 45 #[.pointer (some ⟨C.q, 0, none⟩)] w (WlkEnd C S w) := by
  have hmf : ∀ (fn : Fn) (first cap : Array Value) (w : World), (Instr.makeFunc fn first cap).run Tryz.prog w = .ok (.func fn first cap) w := fun _ _ _ _ => rfl
  obtain ⟨w0, hw0⟩ : ∃ w0, w0 = w.alloc (.cells #[.int .i64 0] 29) := ⟨_, rfl⟩
  have hb0 : Below w.heap.size w w0 := by rw [hw0]; exact (Below.refl _ w).alloc (Nat.le_refl _) _
  have k0 : w0.heap[w.heap.size]? = some (.cells #[.int .i64 0] 29 (0, 0)) := by rw [hw0]; exact alloc_new _ _ _ rfl
  have hz : w0.heap.size = w.heap.size + 1 := by rw [hw0]; simp
  have hnS : ¬ S w.heap.size := fun hs => by have := h.sets _ hs; omega
  obtain ⟨X, hX⟩ : ∃ X : Nat → Prop, X = fun j => j = w.heap.size := ⟨_, rfl⟩
  have hX1 : X w.heap.size := by rw [hX]
  have H0 := Lib.hid (h.lay hb0 (X := X) (fun j hj => by rw [hX] at hj; omega))
  obtain ⟨⟨ns, hns, hns2⟩, ⟨nf, hnf, hnf2⟩⟩ := supF hv
  have hnp := h.2.2.1
  obtain ⟨vP, vT, hq⟩ := H0.out.cells
  have g := cell_blk hq
  unfold wkC at g
  rw [hns, hnf, hnp.1] at g
  have hdr : Below w0.heap.size w0 w0.drew := ⟨rfl, rfl, rfl, Nat.le_refl _, fun _ _ => rfl⟩
  have HPG := Lib.hid (fun w' (hb : Below w0.heap.size w0 w') => dpages_any _ C.d C.np _ C.img _ w' (H0.out.1.below hb))
  have H1 := Lib.hid (H0.out.below hdr)
  have HT := Lib.hid (tree_any C (addL (fun _ => False) X) S P.St.new (.slice none 0 0) w0.drew H1.out hv (by simp [P.St.new]))
  have HB0 := Lib.hid hb0
  have HBD := Lib.hid (hb0.trans (hdr.mono hb0.size))
  have K0 := Lib.hid k0
  have HDR := Lib.hid hdr
  have HSP := Lib.hid (show walkSpec C = (P.treeW C.img C.np false C.s P.St.new).bind fun s1 => (P.chainW C.img C.np (C.np + 1) ns [] s1).bind fun c1 => (freeW C nf c1.2).map fun s3 => (c1.1, s3) by
    unfold walkSpec
    rw [if_pos hnp.1, hns, hnf]
    rfl)
  have q1 : ((C.np : Int) == (C.np : Int)) = true := by simp
  have HNS := Lib.hid hns
  have HNF := Lib.hid hnf
  clear h hb0 k0 hX hq hnp hdr hz hns hnf
  go_enter_defers Tryz.func45, Tryz.ntmps45
  go_wp2_with fail
  rw [← hw0]
  clear hw0
  go_region_held3 (fun w' => w'.cell? ⟨C.q, 2, none⟩ = some (.int .i64 (C.np : Int)) ∧ w'.cell? ⟨C.q, 0, none⟩ = some (.pointer (some ⟨C.d, 0, none⟩))) (go_keep)
    (first
      | (go_at_call 60; refine (HPG.out _ (by exact HDR.out)).mono ?_; rintro e w4 ⟨rfl, rfl⟩)
      | (go_at_call 59; refine (must_t _).mono ?_; rintro e w4 ⟨rfl, rfl⟩))
  go_wp2_with fail
  clear g q1
  refine HT.out.mono ?_
  rintro e w1 (⟨st1, S1, ht1, rfl, hk1, hs1⟩ | ⟨hno, h⟩ | h)
  rotate_left
  · obtain ⟨rfl, S', k, hk, hd, hc, hs⟩ := h
    have kb := Wk.apart ((Stp.below HDR.out).trans hs) K0.out hnS
    refine leaves_cons (f := 58) (args := #[.pointer (some ⟨w.heap.size, 0, none⟩)]) (by simp) (by simp [go_sem]) ?_
    refine (walk1_catch w.heap.size 8 0 [] _ (cell_blk kb 0) (free_blk kb 0)).mono ?_
    rintro e u' w'' ⟨rfl, rfl, rfl⟩
    have hcz := cell_blk (blk_setCell kb 0 (.int .i64 8))
    simp [Leaves, settle, results, Tryz.results45, go_sem, hcz]
    exact wlk_c HB0.out (by rw [HSP.out, hno]; rfl) hk hd hc ((Stp.below HDR.out).trans hs) kb
  · obtain ⟨rfl, S', k, hk, hd, hc, hl, hs⟩ := h
    have kb := Wk.apart ((Stp.below HDR.out).trans hs) K0.out hnS
    refine leaves_cons (f := 58) (args := #[.pointer (some ⟨w.heap.size, 0, none⟩)]) (by simp) (by simp [go_sem]) ?_
    refine (walk1_catch w.heap.size 7 0 [] _ (cell_blk kb 0) (free_blk kb 0)).mono ?_
    rintro e u' w'' ⟨rfl, rfl, rfl⟩
    have hcz := cell_blk (blk_setCell kb 0 (.int .i64 7))
    simp [Leaves, settle, results, Tryz.results45, go_sem, hcz]
    exact wlk_i HB0.out hk hd hc hl ((Stp.below HDR.out).trans hs) kb
  have hs01 : Stp S w0 S1 w1 := (Stp.below HDR.out).trans hs1
  obtain ⟨vP1, vT1, hq1⟩ := hk1.cells
  have g1 := cell_blk hq1
  unfold wkC at g1
  rw [HNS.out, HNF.out] at g1
  have HCH := Lib.hid (chain_any C _ S1 st1 (.slice none 0 0) ns w1 hk1 hns2)
  have HT1 := Lib.hid ht1
  have HS01 := Lib.hid hs01
  have hB1 : C.B ≤ w1.heap.size := by have := hk1.2.2.1.2.2.2.2; have := lt_of_block hq1; omega
  clear ht1 hs01 hs1 hk1 hq1
  go_wp2_with fail
  refine HCH.out.mono ?_
  rintro e w2 (⟨out, st2, S2, v, hch, rfl, hob, hown, hk2, hs2⟩ | ⟨hno, h⟩ | h)
  rotate_left
  · obtain ⟨rfl, S', k, hk, hd, hc, hs⟩ := h
    have kb := Wk.apart (HS01.out.trans hs) K0.out hnS
    refine leaves_cons (f := 58) (args := #[.pointer (some ⟨w.heap.size, 0, none⟩)]) (by simp) (by simp [go_sem]) ?_
    refine (walk1_catch w.heap.size 8 0 [] _ (cell_blk kb 0) (free_blk kb 0)).mono ?_
    rintro e u' w'' ⟨rfl, rfl, rfl⟩
    have hcz := cell_blk (blk_setCell kb 0 (.int .i64 8))
    simp [Leaves, settle, results, Tryz.results45, go_sem, hcz]
    exact wlk_c HB0.out (by rw [HSP.out, HT1.out]; simp only [Option.bind_some]; rw [hno]; rfl) hk hd hc (HS01.out.trans hs) kb
  · obtain ⟨rfl, S', k, hk, hd, hc, hl, hs⟩ := h
    have kb := Wk.apart (HS01.out.trans hs) K0.out hnS
    refine leaves_cons (f := 58) (args := #[.pointer (some ⟨w.heap.size, 0, none⟩)]) (by simp) (by simp [go_sem]) ?_
    refine (walk1_catch w.heap.size 7 0 [] _ (cell_blk kb 0) (free_blk kb 0)).mono ?_
    rintro e u' w'' ⟨rfl, rfl, rfl⟩
    have hcz := cell_blk (blk_setCell kb 0 (.int .i64 7))
    simp [Leaves, settle, results, Tryz.results45, go_sem, hcz]
    exact wlk_i HB0.out hk hd hc hl (HS01.out.trans hs) kb
  obtain ⟨va, vc, rfl, -⟩ := hob.form
  generalize out.length = vn at *
  obtain ⟨hk3, hs3⟩ := hk2.state (.slice va vn vc)
  obtain ⟨vP2, vT2, hq2⟩ := hk2.cells
  have g2 := cell_blk hq2
  have f2 := free_blk hq2
  unfold wkC at g2
  have hob3 := (hob.mono hB1).chg (setCell_chg w2 C.q 20 (.slice va vn vc)) (fun k hk e => hown k hk (e ▸ hk2.2.2.2.2.1.1))
  have HFR := Lib.hid (free_any C _ S2 st2 (.slice va vn vc) out nf (w2.setCell ⟨C.q, 20, none⟩ (.slice va vn vc)) hk3 HNF.out hnf2 hob3 hown)
  have HCH2 := Lib.hid hch
  have HS03 := Lib.hid ((HS01.out.trans hs2).trans hs3)
  clear hch hob hown hk2 hs2 hk3 hs3 hq2 hob3 g1
  go_wp2_with fail
  refine HFR.out.mono ?_
  rintro e w4 (⟨st3, S3, vG, hfr, rfl, hdn, hs4⟩ | ⟨hno, h⟩ | h)
  rotate_left
  · obtain ⟨rfl, S', k, hk, hd, hc, hs⟩ := h
    have kb := Wk.apart (HS03.out.trans hs) K0.out hnS
    refine leaves_cons (f := 58) (args := #[.pointer (some ⟨w.heap.size, 0, none⟩)]) (by simp) (by simp [go_sem]) ?_
    refine (walk1_catch w.heap.size 8 0 [] _ (cell_blk kb 0) (free_blk kb 0)).mono ?_
    rintro e u' w'' ⟨rfl, rfl, rfl⟩
    have hcz := cell_blk (blk_setCell kb 0 (.int .i64 8))
    simp [Leaves, settle, results, Tryz.results45, go_sem, hcz]
    exact wlk_c HB0.out (by rw [HSP.out, HT1.out]; simp only [Option.bind_some]; rw [HCH2.out]; simp only [Option.bind_some]; rw [hno]; rfl) hk hd hc (HS03.out.trans hs) kb
  · obtain ⟨rfl, S', k, hk, hd, hc, hl, hs⟩ := h
    have kb := Wk.apart (HS03.out.trans hs) K0.out hnS
    refine leaves_cons (f := 58) (args := #[.pointer (some ⟨w.heap.size, 0, none⟩)]) (by simp) (by simp [go_sem]) ?_
    refine (walk1_catch w.heap.size 7 0 [] _ (cell_blk kb 0) (free_blk kb 0)).mono ?_
    rintro e u' w'' ⟨rfl, rfl, rfl⟩
    have hcz := cell_blk (blk_setCell kb 0 (.int .i64 7))
    simp [Leaves, settle, results, Tryz.results45, go_sem, hcz]
    exact wlk_i HB0.out hk hd hc hl (HS03.out.trans hs) kb
  have hS := HS03.out.trans hs4
  have kb := Wk.apart hS K0.out hnS
  have gb := cell_blk kb
  have fb := free_blk kb
  have hcz := cell_blk (blk_setCell kb 0 (.int .i64 0))
  have T := (Stp.below HB0.out).trans hS
  have HFIN := Lib.hid (show WlkEnd C S w (.returned (.int .i64 0)) (w4.setCell ⟨w.heap.size, 0, none⟩ (.int .i64 0)) from .inl ⟨st3, S3, _, vG, out, by rw [HSP.out, HT1.out]; simp only [Option.bind_some]; rw [HCH2.out]; simp only [Option.bind_some]; rw [hfr]; rfl, rfl, hdn.box kb 0, ⟨T.1.then (setCell_chg _ _ _ _) (fun i hi e => by omega), T.2⟩⟩)
  clear hdn hs4 hfr hS kb T g2 f2
  go_wp2
  refine leaves_cons (f := 58) (args := #[.pointer (some ⟨w.heap.size, 0, none⟩)]) (by simp) (by simp [go_sem]) ?_
  refine (walk1_idle _ _).mono ?_
  rintro e u' w'' ⟨rfl, rfl, rfl⟩
  have HR := HFIN.out
  simp [Leaves, settle, results, Tryz.results45, go_sem, hcz]
  exact HR
end Go.Proofs.YtnjpaanjgbfbaaaGreat
/- The walker: walk over another number of pages. -/
namespace Go.Proofs.YtnjpaanjgbfbaaaGreat
set_option linter.unusedVariables false
set_option linter.unusedSimpArgs false
open Go.RowKit

set_option maxRecDepth 100000 in
set_option maxHeartbeats 3200000 in
theorem walk_bad (C : AC) (S : Nat → Prop) (ops : Nat) (outs : List UInt8) (vP vT vS : Value) (w : World) (h : Dev S w C.d C.np C.img ops outs) (hq : w.heap[C.q]? = some (.cells (wkC C vP vT vS) 111 (0, 0))) (hp : ¬ C.s.p = (C.np : Int)) :
    Calls Tryz.prog 45 #[.pointer (some ⟨C.q, 0, none⟩)] w fun e w' => e = .returned (.int .i64 8) ∧ Dev S w' C.d C.np C.img ops outs ∧ Below w.heap.size w w' := by
  have hmf : ∀ (fn : Fn) (first cap : Array Value) (w : World), (Instr.makeFunc fn first cap).run Tryz.prog w = .ok (.func fn first cap) w := fun _ _ _ _ => rfl
  obtain ⟨w0, hw0⟩ : ∃ w0, w0 = w.alloc (.cells #[.int .i64 0] 29) := ⟨_, rfl⟩
  have hb0 : Below w.heap.size w w0 := by rw [hw0]; exact (Below.refl _ w).alloc (Nat.le_refl _) _
  have k0 : w0.heap[w.heap.size]? = some (.cells #[.int .i64 0] 29 (0, 0)) := by rw [hw0]; exact alloc_new _ _ _ rfl
  have H0 := Lib.hid (h.below hb0)
  have g := cell_blk ((hb0.block _ (lt_of_block hq)).trans hq)
  unfold wkC at g
  have hdr : Below w0.heap.size w0 w0.drew := ⟨rfl, rfl, rfl, Nat.le_refl _, fun _ _ => rfl⟩
  have HPG := Lib.hid (dpages_any _ C.d C.np _ C.img _ w0.drew (H0.out.below hdr))
  have HB0 := Lib.hid hb0
  have HBD := Lib.hid (hb0.trans (hdr.mono hb0.size))
  have kb : w0.drew.heap[w.heap.size]? = some (.cells #[.int .i64 0] 29 (0, 0)) := k0
  have KB := Lib.hid kb
  have HDV := Lib.hid (H0.out.below hdr)
  have q1 : (C.s.p == (C.np : Int)) = false := by simpa using hp
  clear h hb0 k0 hq hdr hp kb
  go_enter_defers Tryz.func45, Tryz.ntmps45
  go_wp2_with fail
  rw [← hw0]
  clear hw0
  go_still_tail 11, (by kernel_rfl)
  still_call (HPG.out.mono fun _ _ ⟨h1, h2⟩ => ⟨h1, h2.symm⟩)
  repeat still_step
  refine wpStill_nil ?_
  go_wp2_with (go_at_call 59; refine (must_f _).mono ?_; rintro e w4 ⟨rfl, rfl⟩)
  refine leaves_cons (f := 58) (args := #[.pointer (some ⟨w.heap.size, 0, none⟩)]) (by simp) (by simp [go_sem]) ?_
  refine (walk1_catch w.heap.size 8 0 [] w0.drew (cell_blk KB.out 0) (free_blk KB.out 0)).mono ?_
  rintro e u' w'' ⟨rfl, rfl, rfl⟩
  have kb0 : w0.heap[w.heap.size]? = some (.cells #[.int .i64 0] 29 (0, 0)) := KB.out
  have hcz := cell_blk (blk_setCell kb0 0 (.int .i64 8))
  have HFIN := Lib.hid (show Dev S (w0.drew.setCell ⟨w.heap.size, 0, none⟩ (.int .i64 8)) C.d C.np C.img ops outs ∧ Below w.heap.size w (w0.drew.setCell ⟨w.heap.size, 0, none⟩ (.int .i64 8)) from ⟨HDV.out.box KB.out 8, HBD.out.setCell (Nat.le_refl _) _⟩)
  simp [Leaves, settle, results, Tryz.results45, go_sem, hcz]
  exact HFIN.out
end Go.Proofs.YtnjpaanjgbfbaaaGreat
/- The walker: fresh. -/
namespace Go.Proofs.YtnjpaanjgbfbaaaGreat
set_option linter.unusedVariables false
set_option linter.unusedSimpArgs false
open Go.RowKit

theorem cnt_new (np : Nat) : P.cnt np P.St.new = 0 := by
  unfold P.cnt P.St.new
  simp
/-- Where a new walk's memory lies. -/
def freshC (w : World) (d np : Nat) (img : List UInt8) (s : P.Sup) (ops : Nat) (outs : List UInt8) : AC := ⟨w.heap.size, w.heap.size + 3, d, w.heap.size + 1, w.heap.size + 2, np, img, s, ops, outs⟩
def freshS (w : World) (d : Nat) : Nat → Prop := fun j => j = d ∨ j = w.heap.size + 1 ∨ j = w.heap.size + 2 ∨ j = w.heap.size + 3
/-- What fresh leaves. -/
def FreshW (w : World) (C : AC) (w' : World) : Prop :=
  Below w.heap.size w w' ∧ w'.heap.size = w.heap.size + 4 ∧ w'.heap[w.heap.size + 3]? = some (.cells (wkC C (.slice none 0 0) (.slice none 0 0) (.slice none 0 0)) 111 (0, 0)) ∧
    Mp 3 .i64 w' (w.heap.size + 1) 0 (fun _ => none) ∧ Mp 3 .i64 w' (w.heap.size + 2) 0 (fun _ => none)
set_option maxRecDepth 100000 in
set_option maxHeartbeats 1600000 in
theorem fresh_any (d np : Nat) (img : List UInt8) (s : P.Sup) (ops : Nat) (outs : List UInt8) (w : World) :
    Calls Tryz.prog 44 #[.pointer (some ⟨d, 0, none⟩), supV s] w fun e w' => e = .returned (.pointer (some ⟨w.heap.size + 3, 0, none⟩)) ∧ FreshW w (freshC w d np img s ops outs) w' := by
  have hmm := @run_makeMap Tryz.prog
  unfold supV
  go_enter Tryz.func44, Tryz.ntmps44
  go_wp2
  go_ret
  obtain ⟨w1, hw1⟩ : ∃ w1, w1 = w.alloc (.cells #[.int .i64 s.g, .int .i64 s.p, .int .i64 s.r, .int .i64 s.h, .int .i64 s.b, .int .i64 s.l, .int .i64 s.s, .int .i64 s.f] 25) := ⟨_, rfl⟩
  have z1 : w1.heap.size = w.heap.size + 1 := by rw [hw1]; simp
  have b1 : Below w.heap.size w w1 := by rw [hw1]; exact (Below.refl _ w).alloc (Nat.le_refl _) _
  rw [← hw1]
  obtain ⟨w2, hw2⟩ : ∃ w2, w2 = w1.alloc (.map #[] 0) := ⟨_, rfl⟩
  have z2 : w2.heap.size = w.heap.size + 2 := by rw [hw2]; simp [z1]
  have b2 : Below w1.heap.size w1 w2 := by rw [hw2]; exact (Below.refl _ w1).alloc (Nat.le_refl _) _
  have m2 : Mp 3 .i64 w2 (w.heap.size + 1) 0 (fun _ => none) := by rw [hw2, ← z1]; exact Mp.made _
  rw [← hw2]
  obtain ⟨w3, hw3⟩ : ∃ w3, w3 = w2.alloc (.map #[] 0) := ⟨_, rfl⟩
  have z3 : w3.heap.size = w.heap.size + 3 := by rw [hw3]; simp [z2]
  have b3 : Below w2.heap.size w2 w3 := by rw [hw3]; exact (Below.refl _ w2).alloc (Nat.le_refl _) _
  have m3 : Mp 3 .i64 w3 (w.heap.size + 2) 0 (fun _ => none) := by rw [hw3, ← z2]; exact Mp.made _
  rw [← hw3]
  have hbb := fun o => ((b1.trans (b2.mono b1.size)).trans (b3.mono (by omega))).trans (((Below.refl _ w3).alloc (Nat.le_refl _) o).mono (by omega))
  refine ⟨rfl, hbb _, by simp [z3], ?_, (m2.below b3).below ((Below.refl _ w3).alloc (Nat.le_refl _) _), m3.below ((Below.refl _ w3).alloc (Nat.le_refl _) _)⟩
  exact alloc_new _ _ _ z3.symm
theorem fresh_wk {S : Nat → Prop} {d np : Nat} {img : List UInt8} {s : P.Sup} {ops : Nat} {outs : List UInt8} {w w' : World} (h : Dev S w d np img ops outs) (hp : s.p = (np : Int)) (ho : ops ≤ 900000) (hf : FreshW w (freshC w d np img s ops outs) w') :
    Wk (freshC w d np img s ops outs) (fun _ => False) (freshS w d) w' P.St.new (tkF P.St.new) (.slice none 0 0) := by
  obtain ⟨hb, hz, hq, hm, ht⟩ := hf
  have hd := h.lt
  have h8 : 8 ≤ np ∧ np ≤ 4096 := by
    obtain ⟨vl, gn, cn, vw, ao, no, co, -, -, -, -, -, -, -, -, -, a, b, -⟩ := h
    exact ⟨a, b⟩
  have hav : ∀ j, av (fun _ => False) (freshS w d) j → j = d ∨ (w.heap.size < j ∧ j < w.heap.size + 4) := fun j e => by
    rcases e with e | e
    · rcases e with e | e | e | e
      · exact .inl e
      all_goals exact .inr (by omega)
    · exact e.elim
  have hcn := cnt_new np
  refine ⟨?_, ?_, ⟨hp, h8.1, h8.2, ho, Nat.le_add_right _ _⟩, fun j e => ?_, ⟨.inr (.inr (.inr rfl)), .inr (.inl rfl), .inr (.inr (.inl rfl)), (by unfold freshC; simp), .inl rfl⟩, by simp [P.St.new], fun k _ => rfl, _, _, fun _ => none, 0, 0, hq, OV.nil _ _ _ _, OB.nil _ _, fun k hk => by simp [Value.ownBlock] at hk, fun k hk => by simp [Value.ownBlock] at hk, hm.ext (fun k => by simp [metV, P.St.new]), Nat.zero_le _, ht, Nat.zero_le _, fun n => ?_⟩
  · show Dev _ w' d np img (ops + P.cnt np P.St.new) (outs.drop (P.cnt np P.St.new))
    rw [hcn]
    exact (h.sets (T := av (fun _ => False) (freshS w d)) (fun j hj e => by
      rcases hav j e with e | e
      · rw [e]; exact h.mem
      · omega) (.inl (.inl rfl))).below hb
  · show CleanO outs (P.cnt np P.St.new)
    rw [hcn]
    intro i hi
    omega
  · rw [hz]
    rcases hav j e with e | e
    · omega
    · omega
  · have : tkF P.St.new n = false := rfl
    rw [this]
    rfl
end Go.Proofs.YtnjpaanjgbfbaaaGreat
/- The store of a report. Printed by gen_auq.py. -/
namespace Go.Proofs.YtnjpaanjgbfbaaaGreat
set_option linter.unusedVariables false
set_option linter.unusedSimpArgs false
open Go.RowKit

theorem blk13 {w1 : World} {B : Nat} {a0 a1 a2 a3 a4 a5 a6 a7 a8 a9 a10 a11 a12 : Value} {t : TypeId} {fr : Nat × Nat} (h : w1.heap[B]? = some (.cells #[a0, a1, a2, a3, a4, a5, a6, a7, a8, a9, a10, a11, a12] t fr)) (u0 u1 u2 u3 u4 u5 u6 u7 u8 u9 u10 u11 u12 : Value) :
    (((((((((((((w1.setCell ⟨B, 0, none⟩ u0).setCell ⟨B, 1, none⟩ u1).setCell ⟨B, 2, none⟩ u2).setCell ⟨B, 3, none⟩ u3).setCell ⟨B, 4, none⟩ u4).setCell ⟨B, 5, none⟩ u5).setCell ⟨B, 6, none⟩ u6).setCell ⟨B, 7, none⟩ u7).setCell ⟨B, 8, none⟩ u8).setCell ⟨B, 9, none⟩ u9).setCell ⟨B, 10, none⟩ u10).setCell ⟨B, 11, none⟩ u11).setCell ⟨B, 12, none⟩ u12).heap[B]? = some (.cells #[u0, u1, u2, u3, u4, u5, u6, u7, u8, u9, u10, u11, u12] t fr) := by
  have h0 := blk_setCell h 0 u0
  simp only [List.setIfInBounds_toArray, List.set_cons_zero, List.set_cons_succ] at h0
  have h1 := blk_setCell h0 1 u1
  simp only [List.setIfInBounds_toArray, List.set_cons_zero, List.set_cons_succ] at h1
  have h2 := blk_setCell h1 2 u2
  simp only [List.setIfInBounds_toArray, List.set_cons_zero, List.set_cons_succ] at h2
  have h3 := blk_setCell h2 3 u3
  simp only [List.setIfInBounds_toArray, List.set_cons_zero, List.set_cons_succ] at h3
  have h4 := blk_setCell h3 4 u4
  simp only [List.setIfInBounds_toArray, List.set_cons_zero, List.set_cons_succ] at h4
  have h5 := blk_setCell h4 5 u5
  simp only [List.setIfInBounds_toArray, List.set_cons_zero, List.set_cons_succ] at h5
  have h6 := blk_setCell h5 6 u6
  simp only [List.setIfInBounds_toArray, List.set_cons_zero, List.set_cons_succ] at h6
  have h7 := blk_setCell h6 7 u7
  simp only [List.setIfInBounds_toArray, List.set_cons_zero, List.set_cons_succ] at h7
  have h8 := blk_setCell h7 8 u8
  simp only [List.setIfInBounds_toArray, List.set_cons_zero, List.set_cons_succ] at h8
  have h9 := blk_setCell h8 9 u9
  simp only [List.setIfInBounds_toArray, List.set_cons_zero, List.set_cons_succ] at h9
  have h10 := blk_setCell h9 10 u10
  simp only [List.setIfInBounds_toArray, List.set_cons_zero, List.set_cons_succ] at h10
  have h11 := blk_setCell h10 11 u11
  simp only [List.setIfInBounds_toArray, List.set_cons_zero, List.set_cons_succ] at h11
  have h12 := blk_setCell h11 12 u12
  simp only [List.setIfInBounds_toArray, List.set_cons_zero, List.set_cons_succ] at h12
  exact h12
theorem chg13 {S : Nat → Prop} {w w1 : World} {B : Nat} (h : Chg S w w1) (hB : w.heap.size ≤ B ∨ S B) (u0 u1 u2 u3 u4 u5 u6 u7 u8 u9 u10 u11 u12 : Value) : Chg S w (((((((((((((w1.setCell ⟨B, 0, none⟩ u0).setCell ⟨B, 1, none⟩ u1).setCell ⟨B, 2, none⟩ u2).setCell ⟨B, 3, none⟩ u3).setCell ⟨B, 4, none⟩ u4).setCell ⟨B, 5, none⟩ u5).setCell ⟨B, 6, none⟩ u6).setCell ⟨B, 7, none⟩ u7).setCell ⟨B, 8, none⟩ u8).setCell ⟨B, 9, none⟩ u9).setCell ⟨B, 10, none⟩ u10).setCell ⟨B, 11, none⟩ u11).setCell ⟨B, 12, none⟩ u12) :=
  ((((((((((((h.setCell _ _ hB).setCell _ _ hB).setCell _ _ hB).setCell _ _ hB).setCell _ _ hB).setCell _ _ hB).setCell _ _ hB).setCell _ _ hB).setCell _ _ hB).setCell _ _ hB).setCell _ _ hB).setCell _ _ hB).setCell _ _ hB
end Go.Proofs.YtnjpaanjgbfbaaaGreat
/- Chains: what it tells; a read that is lost. -/
namespace Go.Proofs.YtnjpaanjgbfbaaaGreat
set_option linter.unusedVariables false
set_option linter.unusedSimpArgs false
open Go.RowKit

/-- A report. -/
def repC (s : P.Sup) (place : Int) (vP vT vS vG : Value) : Array Value :=
  #[.int .i64 s.g, .int .i64 s.p, .int .i64 s.r, .int .i64 s.h, .int .i64 s.b, .int .i64 s.l, .int .i64 s.s, .int .i64 s.f, .int .i64 place, vP, vT, vS, vG]
def repZ : Value := .agg (repC .zero 0 (.slice none 0 0) (.slice none 0 0) (.slice none 0 0) (.slice none 0 0))
def specC (np : Nat) (img : List UInt8) (s : P.Sup) : AC := ⟨0, 0, 0, 0, 0, np, img, s, 0, []⟩
theorem walkSpec_eq (C : AC) : walkSpec C = walkSpec (specC C.np C.img C.s) := rfl
/-- What an image opens as: its superblock, the place, the state, what was met. -/
def opens (np : Nat) (img : List UInt8) : Option (P.Sup × Int × List UInt8 × P.St) :=
  if P.cE (P.pg img 0) (P.pg img 1) = 0 then (walkSpec (specC np img (P.cS (P.pg img 0) (P.pg img 1)))).map fun x => (P.cS (P.pg img 0) (P.pg img 1), P.cI (P.pg img 0) (P.pg img 1), x.1, x.2)
  else none
def blobsTo (st : P.St) (np : Nat) : List Int := (pgsTo st np).filter fun i => decide (st.met i.toNat = 5)
/-- The rows of a report. -/
def RepIs (w : World) (B np : Nat) (st : P.St) (sl : List UInt8) (vP vT vS vG : Value) : Prop :=
  OV w B 59 4 vP st.ps.length (qCs st.ps) ∧ OB w B vT st.tx ∧ OB w B vS sl ∧ OV w B 3 1 vG (pgsTo st np).length (ivs (pgsTo st np))
def OnlyD (d : Nat) : Nat → Prop := fun j => j = d
/-- How Chains, Open end. -/
def ChnEnd (d np : Nat) (img : List UInt8) (ops : Nat) (outs : List UInt8) (w : World) (e : Ending) (w' : World) : Prop :=
  Chg (OnlyD d) w w' ∧
  ((∃ s pl sl st vP vT vS vG vL, opens np img = some (s, pl, sl, st) ∧ e = .returned (.tuple #[.agg (repC s pl vP vT vS vG), vL, .int .i64 0]) ∧ RepIs w' w.heap.size np st sl vP vT vS vG ∧
      OV w' w.heap.size 3 1 vL (blobsTo st np).length (ivs (blobsTo st np)) ∧ Dev (OnlyD d) w' d np img (ops + (2 + P.cnt np st)) (outs.drop (2 + P.cnt np st)) ∧ CleanO outs (2 + P.cnt np st)) ∨
   (opens np img = none ∧ e = .returned (.tuple #[repZ, .slice none 0 0, .int .i64 8]) ∧ ∃ k, k ≤ np + 2 ∧ Dev (OnlyD d) w' d np img (ops + k) (outs.drop k) ∧ CleanO outs k) ∨
   (e = .returned (.tuple #[repZ, .slice none 0 0, .int .i64 7]) ∧ ∃ k, k < np + 2 ∧ Dev (OnlyD d) w' d np img (ops + k + 1) (outs.drop (k + 1)) ∧ CleanO outs k ∧ lostO (outs.drop k) = true))
def WD (w : World) (d : Nat) : Nat → Prop := fun j => j = d ∨ w.heap.size ≤ j
/-- A block that holds no bytes is none of a device's. -/
theorem Dev.more {S : Nat → Prop} {w : World} {d np ops j : Nat} {img outs : List UInt8} {c : Array Value} {t : TypeId} {fr : Nat × Nat} (h : Dev S w d np img ops outs) (hj : w.heap[j]? = some (.cells c t fr)) (hn : ∀ (k : Nat) (x : Int), c[k]? ≠ some (Value.int IntKind.u8 x)) : Dev (fun k => S k ∨ k = j) w d np img ops outs := by
  obtain ⟨vl, gn, cn, vw, ao, no, co, h1, h2, h3, h4, h5, h6, h7, h8, h9, h10, h11, h12⟩ := h
  have hgj : gn ≠ j := fun e => by
    have hl := h2.1
    obtain ⟨q, e', hq⟩ := h2.2.2 1 (by omega)
    cases e'
    have ea : (⟨gn, 0, none⟩ : Addr).add 1 = ⟨gn, 1, none⟩ := rfl
    rw [ea, e, cell_blk hj] at hq
    simp [bvs, bv] at hq
    exact hn _ _ hq
  refine ⟨vl, gn, cn, vw, ao, no, co, h1, h2, h3, h4, h5, h6, .inl h7, fun e => e.elim h8 hgj, fun p hp hno e => ?_, h10, h11, h12⟩
  rcases e with e | e
  · exact h9 p hp hno e
  · obtain ⟨q, e', hq⟩ := h5.2.2 0 (by have := h5.1; omega)
    rw [hp] at e'; cases e'
    unfold World.cell? at hq
    have eb : (p.add 0).block = j := by rw [add_block]; exact e
    rw [eb, hj] at hq
    rcases ho : (p.add 0).off with _ | o
    · rw [ho] at hq
      simp [bvs, bv] at hq
      exact hn _ _ hq.2
    · rw [ho] at hq
      simp [bvs, bv] at hq
      exact hn _ _ hq.2
theorem chn_fin {T : Nat → Prop} {w wx : World} {d np ops : Nat} {img outs : List UInt8} (hd : d < w.heap.size) (hD : Dev T wx d np img ops outs) (hT : T w.heap.size) (hC : Chg (WD w d) w wx) :
    Dev (OnlyD d) (((((((((((((wx.setCell ⟨w.heap.size, 0, none⟩ (.int .i64 0)).setCell ⟨w.heap.size, 1, none⟩ (.int .i64 0)).setCell ⟨w.heap.size, 2, none⟩ (.int .i64 0)).setCell ⟨w.heap.size, 3, none⟩ (.int .i64 0)).setCell ⟨w.heap.size, 4, none⟩ (.int .i64 0)).setCell ⟨w.heap.size, 5, none⟩ (.int .i64 0)).setCell ⟨w.heap.size, 6, none⟩ (.int .i64 0)).setCell ⟨w.heap.size, 7, none⟩ (.int .i64 0)).setCell ⟨w.heap.size, 8, none⟩ (.int .i64 0)).setCell ⟨w.heap.size, 9, none⟩ (.slice none 0 0)).setCell ⟨w.heap.size, 10, none⟩ (.slice none 0 0)).setCell ⟨w.heap.size, 11, none⟩ (.slice none 0 0)).setCell ⟨w.heap.size, 12, none⟩ (.slice none 0 0)) d np img ops outs ∧ Chg (OnlyD d) w (((((((((((((wx.setCell ⟨w.heap.size, 0, none⟩ (.int .i64 0)).setCell ⟨w.heap.size, 1, none⟩ (.int .i64 0)).setCell ⟨w.heap.size, 2, none⟩ (.int .i64 0)).setCell ⟨w.heap.size, 3, none⟩ (.int .i64 0)).setCell ⟨w.heap.size, 4, none⟩ (.int .i64 0)).setCell ⟨w.heap.size, 5, none⟩ (.int .i64 0)).setCell ⟨w.heap.size, 6, none⟩ (.int .i64 0)).setCell ⟨w.heap.size, 7, none⟩ (.int .i64 0)).setCell ⟨w.heap.size, 8, none⟩ (.int .i64 0)).setCell ⟨w.heap.size, 9, none⟩ (.slice none 0 0)).setCell ⟨w.heap.size, 10, none⟩ (.slice none 0 0)).setCell ⟨w.heap.size, 11, none⟩ (.slice none 0 0)).setCell ⟨w.heap.size, 12, none⟩ (.slice none 0 0)) := by
  have h1 := chg13 (Chg.refl (fun j => j = w.heap.size) wx) (.inr rfl) (.int .i64 0) (.int .i64 0) (.int .i64 0) (.int .i64 0) (.int .i64 0) (.int .i64 0) (.int .i64 0) (.int .i64 0) (.int .i64 0) (.slice none 0 0) (.slice none 0 0) (.slice none 0 0) (.slice none 0 0)
  refine ⟨(hD.chg h1 (fun j _ e => e ▸ hT) (by omega)).sets (fun j _ e => e ▸ hD.mem) rfl, ?_⟩
  refine (hC.then h1 (fun i hi e => by omega)).mono fun i hi e => ?_
  rcases e with e | e
  · exact e
  · omega
theorem CleanO.zero (outs : List UInt8) : CleanO outs 0 := fun i hi => absurd hi (by omega)
theorem CleanO.step {outs : List UInt8} {k : Nat} (h : CleanO outs k) (hl : lostO (outs.drop k) = false) : CleanO outs (k + 1) := fun i hi => by
  rcases Nat.lt_or_ge i k with h1 | h1
  · exact h i h1
  · obtain rfl : i = k := by omega
    exact hl
theorem CleanO.app {outs : List UInt8} {k m : Nat} (h : CleanO outs k) (h2 : CleanO (outs.drop k) m) : CleanO outs (k + m) := fun i hi => by
  rcases Nat.lt_or_ge i k with h1 | h1
  · exact h i h1
  · have := h2 (i - k) (by omega)
    rw [List.drop_drop] at this
    rw [show k + (i - k) = i by omega] at this
    exact this
set_option maxRecDepth 100000 in
set_option maxHeartbeats 3200000 in
theorem chains_io0 (d np : Nat) (img : List UInt8) (ops : Nat) (outs : List UInt8) (w : World) (h : Dev (OnlyD d) w d np img ops outs) (ho : ops ≤ 800000) (hl : lostO outs = true) :
    Calls Tryz.prog 27 #[.pointer (some ⟨d, 0, none⟩)] w (ChnEnd d np img ops outs w) := by
  obtain ⟨w0, hw0⟩ : ∃ w0, w0 = (w.alloc (.cells (repC .zero 0 (.slice none 0 0) (.slice none 0 0) (.slice none 0 0) (.slice none 0 0)) 35)).alloc (.cells #[.slice none 0 0, .slice none 0 0] 100) := ⟨_, rfl⟩
  have hb0 : Below w.heap.size w w0 := by rw [hw0]; exact ((Below.refl _ w).alloc (Nat.le_refl _) _).alloc (by simp) _
  have k0 : w0.heap[w.heap.size]? = some (.cells (repC .zero 0 (.slice none 0 0) (.slice none 0 0) (.slice none 0 0) (.slice none 0 0)) 35 (0, 0)) := by rw [hw0]; exact alloc_old (alloc_new _ _ _ rfl) _
  have a0 : w0.heap[w.heap.size + 1]? = some (.cells #[.slice none 0 0, .slice none 0 0] 100 (0, 0)) := by rw [hw0]; exact alloc_new _ _ _ (by simp)
  have hd := h.lt
  have D0 := Lib.hid ((h.wide.sets (T := WD w d) (fun j _ e => e) (.inl rfl)).below hb0)
  have C0 := Lib.hid (Chg.of_below hb0 (WD w d))
  unfold repC P.Sup.zero at hw0 k0
  have K0 := Lib.hid k0
  have A0 := Lib.hid a0
  have h8 : 0 < np := by obtain ⟨vl, gn, cn, vw, ao, no, co, -, -, -, -, -, -, -, -, -, a, b, -⟩ := h; omega
  have HR := Lib.hid (dread_io _ d np ops img outs 0 w0 D0.out hl (by omega) h8)
  have HL := Lib.hid hl
  have HDL := Lib.hid hd
  clear h hb0 k0 a0 hl hd
  go_enter Tryz.func27, Tryz.ntmps27
  go_wp2_with fail
  rw [← hw0]
  clear hw0
  refine wp_loop_rounds 3 ?_
  rw [rounds_succ]
  go_wp2_with fail
  refine HR.out.mono ?_
  rintro e w1 ⟨rfl, hd1, hc1⟩
  have C1 := Lib.hid (C0.out.trans (hc1.mono fun j _ e => .inl e))
  have k1 := (hc1.block _ (lt_of_block K0.out) (by have := HDL.out; omega)).trans K0.out
  have D1 := Lib.hid hd1
  have g := cell_blk k1
  have fz := free_blk k1
  have cl := cell_blk (blk13 k1 (.int .i64 0) (.int .i64 0) (.int .i64 0) (.int .i64 0) (.int .i64 0) (.int .i64 0) (.int .i64 0) (.int .i64 0) (.int .i64 0) (.slice none 0 0) (.slice none 0 0) (.slice none 0 0) (.slice none 0 0))
  have HF := Lib.hid (chn_fin HDL.out D1.out (.inr (Nat.le_refl _)) C1.out)
  clear hd1 hc1 k1
  go_wp2
  refine bodyPost_ret (v := .tuple #[repZ, .slice none 0 0, .int .i64 7]) (by simp [results, Tryz.results27, go_sem, cl, repZ, repC, P.Sup.zero]) rfl ⟨HF.out.2, .inr (.inr ⟨rfl, 0, by omega, ?_, CleanO.zero _, HL.out⟩)⟩
  have := HF.out.1
  rw [← List.drop_one] at this
  exact this
set_option maxRecDepth 100000 in
set_option maxHeartbeats 3200000 in
theorem chains_io1 (d np : Nat) (img : List UInt8) (ops : Nat) (outs : List UInt8) (w : World) (h : Dev (OnlyD d) w d np img ops outs) (ho : ops ≤ 800000) (hl : lostO outs = false) (hl2 : lostO (outs.drop 1) = true) :
    Calls Tryz.prog 27 #[.pointer (some ⟨d, 0, none⟩)] w (ChnEnd d np img ops outs w) := by
  obtain ⟨w0, hw0⟩ : ∃ w0, w0 = (w.alloc (.cells (repC .zero 0 (.slice none 0 0) (.slice none 0 0) (.slice none 0 0) (.slice none 0 0)) 35)).alloc (.cells #[.slice none 0 0, .slice none 0 0] 100) := ⟨_, rfl⟩
  have hb0 : Below w.heap.size w w0 := by rw [hw0]; exact ((Below.refl _ w).alloc (Nat.le_refl _) _).alloc (by simp) _
  have k0 : w0.heap[w.heap.size]? = some (.cells (repC .zero 0 (.slice none 0 0) (.slice none 0 0) (.slice none 0 0) (.slice none 0 0)) 35 (0, 0)) := by rw [hw0]; exact alloc_old (alloc_new _ _ _ rfl) _
  have a0 : w0.heap[w.heap.size + 1]? = some (.cells #[.slice none 0 0, .slice none 0 0] 100 (0, 0)) := by rw [hw0]; exact alloc_new _ _ _ (by simp)
  have hd := h.lt
  have D0 := Lib.hid ((h.wide.sets (T := WD w d) (fun j _ e => e) (.inl rfl)).below hb0)
  have C0 := Lib.hid (Chg.of_below hb0 (WD w d))
  unfold repC P.Sup.zero at hw0 k0
  have K0 := Lib.hid k0
  have A0 := Lib.hid a0
  have h8 : 8 ≤ np := by obtain ⟨vl, gn, cn, vw, ao, no, co, -, -, -, -, -, -, -, -, -, a, b, -⟩ := h; omega
  have hpl := pg_length img np 0 h.page (by omega)
  have HR := Lib.hid (dread_ok _ d np ops img outs 0 w0 D0.out hl (by omega) (by omega))
  have HL := Lib.hid hl
  have HL2 := Lib.hid hl2
  have HDL := Lib.hid hd
  clear h hb0 k0 a0 hl hl2 hd
  go_enter Tryz.func27, Tryz.ntmps27
  go_wp2_with fail
  rw [← hw0]
  clear hw0
  refine wp_loop_rounds 3 ?_
  rw [rounds_succ]
  go_wp2_with fail
  refine HR.out.mono ?_
  rintro e w1 ⟨v1, rfl, ho1, hd1, hc1⟩
  have C1 := Lib.hid (C0.out.trans (hc1.mono fun j _ e => .inl e))
  have k1 := (hc1.block _ (lt_of_block K0.out) (by have := HDL.out; omega)).trans K0.out
  have a1 := (hc1.block _ (lt_of_block A0.out) (by have := HDL.out; omega)).trans A0.out
  have D1 := Lib.hid hd1
  have K1 := Lib.hid k1
  have A1 := Lib.hid a1
  obtain ⟨p1, q1, rfl, hr1, hm1, -, -⟩ := ho1.form
  rw [hpl] at hr1 hm1 ⊢
  have HCL := Lib.hid (clone_any p1 _ q1 _ w1 hr1 (by omega))
  clear hd1 hc1 k1 a1 ho1 hr1
  go_wp2_with fail
  refine HCL.out.mono ?_
  rintro e w2 ⟨v2, rfl, ho2, hb2⟩
  obtain ⟨p2, q2, rfl, hr2, hm2, -, -⟩ := ho2.form
  have a2 := (hb2.block _ (lt_of_block A1.out)).trans A1.out
  have g2 := cell_blk a2
  have f2 := free_blk a2
  have hc2 := (Chg.of_below hb2 (fun j => j = w.heap.size + 1)).setCell ⟨w.heap.size + 1, 0, none⟩ (.slice p2 (P.pg img 0).length q2) (.inr rfl)
  have C2 := Lib.hid (C1.out.then hc2 (fun i hi e => by omega))
  have D2 := Lib.hid (D1.out.chg hc2 (fun j _ e => .inr (by omega)) (by have := HDL.out; omega))
  have k2 := (hc2.block _ (lt_of_block K1.out) (by omega)).trans K1.out
  have K2 := Lib.hid k2
  obtain ⟨w3, hw3⟩ : ∃ w3, w3 = w2.setCell ⟨w.heap.size + 1, 0, none⟩ (.slice p2 (P.pg img 0).length q2) := ⟨_, rfl⟩
  rw [← hw3] at C2 D2 K2
  rw [hpl] at hw3 ⊢
  have HR2 := Lib.hid (dread_io _ d np (ops + 1) img outs.tail 1 w3 D2.out (by rw [← List.drop_one]; exact HL2.out) (by omega) (by omega))
  clear a2 hb2 hc2 k2 ho2
  go_wp2
  rw [← hw3]
  clear hw3
  rw [rounds_succ]
  go_wp2_with fail
  refine HR2.out.mono ?_
  rintro e w4 ⟨rfl, hd4, hc4⟩
  have C4 := Lib.hid (C2.out.trans (hc4.mono fun j _ e => .inl e))
  have k4 := (hc4.block _ (lt_of_block K2.out) (by have := HDL.out; omega)).trans K2.out
  have D4 := Lib.hid hd4
  have g := cell_blk k4
  have fz := free_blk k4
  have cl := cell_blk (blk13 k4 (.int .i64 0) (.int .i64 0) (.int .i64 0) (.int .i64 0) (.int .i64 0) (.int .i64 0) (.int .i64 0) (.int .i64 0) (.int .i64 0) (.slice none 0 0) (.slice none 0 0) (.slice none 0 0) (.slice none 0 0))
  have HF := Lib.hid (chn_fin HDL.out D4.out (.inr (Nat.le_refl _)) C4.out)
  clear hd4 hc4 k4 g2 f2
  go_wp2
  refine bodyPost_ret (v := .tuple #[repZ, .slice none 0 0, .int .i64 7]) (by simp [results, Tryz.results27, go_sem, cl, repZ, repC, P.Sup.zero]) rfl ⟨HF.out.2, .inr (.inr ⟨rfl, 1, by omega, ?_, (CleanO.zero _).step HL.out, HL2.out⟩)⟩
  have := HF.out.1
  rw [← List.drop_one, ← List.drop_one, List.drop_drop] at this
  exact this
end Go.Proofs.YtnjpaanjgbfbaaaGreat
/- Chains: both superblocks read. Printed by gen_aur.py. -/
namespace Go.Proofs.YtnjpaanjgbfbaaaGreat
set_option linter.unusedVariables false
set_option linter.unusedSimpArgs false
open Go.RowKit

theorem P.cE_cases (l k : List UInt8) : P.cE l k = 0 ∨ P.cE l k = 8 := by
  unfold P.cE
  split
  · exact .inr rfl
  · exact .inl rfl
theorem P.sErr_chk {l : List UInt8} (h : P.sErr l = 0) : (P.sSup l).chk = 0 := by
  by_cases h1 : P.openErr l = 0
  · by_cases h2 : P.openKind l = 1 ∧ P.openLevel l = 0 ∧ P.openCount l = 0 ∧ ((P.openBody l).drop 34).all (· == 0) = true ∧ (P.dec (P.openBody l)).chk = 0
    · rw [(P.sErr_good h1 h2).2]; exact h2.2.2.2.2
    · have := (P.sErr_bad h1 h2).1; omega
  · have := (P.sErr_open h1).1; omega
theorem P.cE_chk {l k : List UInt8} (h : P.cE l k = 0) : (P.cS l k).chk = 0 := by
  by_cases h1 : P.sErr l = 0 ∧ (P.sErr k ≠ 0 ∨ (P.sSup l).g ≥ (P.sSup k).g)
  · rw [(P.pick_a l k h1).1]; exact P.sErr_chk h1.1
  · by_cases h2 : P.sErr k = 0
    · rw [(P.pick_b l k h1 h2).1]; exact P.sErr_chk h2
    · have : P.sErr l ≠ 0 := fun e => h1 ⟨e, .inl h2⟩
      have := (P.pick_n l k this h2).2.2
      omega
theorem OB.far {w : World} {B : Nat} {v : Value} {l : List UInt8} {j : Nat} (h : OB w B v l) (hj : j < B) : ∀ k, v.ownBlock = some k → ¬ k = j := fun k hk e => by have := (World.ownsRow.lt h k hk).1; omega
theorem OV.far {w : World} {B : Nat} {t : TypeId} {s : Nat} {v : Value} {n : Nat} {l : List Value} {j : Nat} (h : OV w B t s v n l) (hj : j < B) : ∀ k, v.ownBlock = some k → ¬ k = j := fun k hk e => by have := (World.ownsRow.lt h k hk).1; omega
theorem Done.place {C : AC} {S : Nat → Prop} {w : World} {st : P.St} {pl : Int} {vS vG : Value} {sl : List UInt8} {gl : List Int} (h : Done C S w st pl vS vG sl gl) (x : Int) : Done C S (w.setCell ⟨C.q, 17, none⟩ (.int .i64 x)) st x vS vG sl gl := by
  obtain ⟨h1, h2, h3, h4, h5, h6, h7, h8, h9, vP, vT, nm, h10, h11, h12, h13⟩ := h
  have hc := setCell_chg w C.q 17 (.int .i64 x)
  obtain ⟨es1, ck1, hm1⟩ := h13.obj
  obtain ⟨cd, fr, hdd⟩ := h1.isDev
  have hqm : C.m ≠ C.q := fun e => by rw [← e, hm1] at h10; simp at h10
  have hqd : C.d ≠ C.q := fun e => by rw [← e, hdd] at h10; simp at h10
  have hV : ∀ {t : TypeId} {s : Nat} {v : Value} {n : Nat} {l : List Value}, OV w C.B t s v n l → t ≠ 111 → ∀ k, v.ownBlock = some k → ¬ k = C.q := fun h ht k hk e => by
    obtain ⟨c, hc⟩ := OV.kind h k hk
    rw [e, h10] at hc
    simp at hc
    exact ht hc.2.symm
  have hB : ∀ {v : Value} {l : List UInt8}, OB w C.B v l → ∀ k, v.ownBlock = some k → ¬ k = C.q := fun h k hk e => by
    obtain ⟨c, hc⟩ := OB.kind h k hk
    rw [e, h10] at hc
    simp at hc
  refine ⟨h1.chg hc (fun j _ e => e ▸ h5) hqd, h2, h3, fun k e => Nat.lt_of_lt_of_le (h4 k e) hc.size, h5, h6, h7.chg hc (hB h7), h8, OVc.chg h9 hc (hV h9 (by decide)), vP, vT, nm, ?_, OVc.chg h11 hc (hV h11 (by decide)), h12.chg hc (hB h12), h13.chg hc hqm⟩
  rw [blk_setCell h10]
  rfl
end Go.Proofs.YtnjpaanjgbfbaaaGreat
