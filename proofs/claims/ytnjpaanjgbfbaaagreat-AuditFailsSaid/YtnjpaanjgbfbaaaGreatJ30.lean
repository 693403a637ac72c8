/- The walker: chain. -/
import Derived.Test.YtnjpaanjgbfbaaaGreatJ29
import Derived.Test.YtnjpaanjgbfbaaaGreatJ09
import Derived.Deep.LoopGhost
namespace Go.Proofs.YtnjpaanjgbfbaaaGreat
set_option linter.unusedVariables false
set_option linter.unusedSimpArgs false
open Go.RowKit

/-- Blocks of the caller's own are written, others made. -/
theorem Wk.grow {C : AC} {L S X T : Nat → Prop} {w w1 : World} {st : P.St} {tk : Nat → Bool} {vS : Value} (h : Wk C L S w st tk vS) (hc : Chg T w w1) (hT : ∀ j, j < w.heap.size → T j → L j ∧ ¬ S j) (hX : ∀ j, X j → w.heap.size ≤ j ∧ j < w1.heap.size) : Wk C (addL L X) S w1 st tk vS := by
  obtain ⟨hd, hcl, hnp, h1, h2, h3, h0, vP, vT, V, nm, nt, h4, h5, h6, h7, h8, h9, h10, h11, h12, h13⟩ := h
  have hav : ∀ j, j < w.heap.size → av (addL L X) S j → av L S j := fun j hj e => by
    rcases e with e | e | e
    · exact .inl e
    · exact .inr e
    · have := (hX j e).1
      omega
  have hcT : Chg (fun j => j < w.heap.size ∧ T j) w w1 := hc.mono fun j hj e => ⟨hj, e⟩
  have hn : ∀ k, S k → ¬ (k < w.heap.size ∧ T k) := fun k hk e => (hT k e.1 e.2).2 hk
  refine ⟨(hd.sets (T := av (addL L X) S) hav (.inl h2.2.2.2.2)).chg hcT (fun j _ e => .inr (.inl (hT j e.1 e.2).1)) (hn _ h2.2.2.2.2), hcl, hnp, fun j e => ?_, h2, h3, h0, vP, vT, V, nm, nt, (hcT.block _ (lt_of_block h4) (hn _ h2.1)).trans h4, OVc.chg h5 hcT (fun k hk => hn _ (h7 k hk)), h6.chg hcT (fun k hk => hn _ (h8 k hk)), h7, h8, h9.chg hcT (hn _ h2.2.1), h10, h11.chg hcT (hn _ h2.2.2.1), h12, fun n => ?_⟩
  · rcases e with e | e | e
    · exact Nat.lt_of_lt_of_le (h1 j (.inl e)) hc.size
    · exact Nat.lt_of_lt_of_le (h1 j (.inr e)) hc.size
    · exact (hX j e).2
  · have hx := h13 n
    rcases htk : tk n with _ | _
    · rw [htk] at hx; exact hx
    · rw [htk] at hx
      obtain ⟨a, m, cp, e, hr, hm, ha⟩ := hx
      exact ⟨a, m, cp, e, hr.chg hcT (fun p e ht => (ha p e).1 (.inr (hT _ ht.1 ht.2).1)), hm, fun p e => ⟨fun ht => (ha p e).1 (hav _ (ha p e).2 ht), Nat.lt_of_lt_of_le (ha p e).2 hc.size⟩⟩
theorem Wk.less {C : AC} {L L' S : Nat → Prop} {w : World} {st : P.St} {tk : Nat → Bool} {vS : Value} (h : Wk C L S w st tk vS) (hL : ∀ j, L' j → L j) : Wk C L' S w st tk vS := by
  obtain ⟨hd, hcl, hnp, h1, h2, h3, h0, vP, vT, V, nm, nt, h4, h5, h6, h7, h8, h9, h10, h11, h12, h13⟩ := h
  have hav : ∀ j, av L' S j → av L S j := fun j e => by
    rcases e with e | e
    · exact .inl e
    · exact .inr (hL j e)
  refine ⟨hd.sets (T := av L' S) (fun j _ e => hav j e) (.inl h2.2.2.2.2), hcl, hnp, fun j e => h1 j (hav j e), h2, h3, h0, vP, vT, V, nm, nt, h4, h5, h6, h7, h8, h9, h10, h11, h12, fun n => ?_⟩
  have hx := h13 n
  rcases htk : tk n with _ | _
  · rw [htk] at hx; exact hx
  · rw [htk] at hx
    obtain ⟨a, m, cp, e, hr, hm, ha⟩ := hx
    exact ⟨a, m, cp, e, hr, hm, fun p e => ⟨fun ht => (ha p e).1 (hav _ ht), (ha p e).2⟩⟩
/-- How chain ends. -/
def ChEnd (C : AC) (L S : Nat → Prop) (vS : Value) (spec : Option (List UInt8 × P.St)) (w : World) (e : Ending) (w' : World) : Prop :=
  (∃ out st' S' v, spec = some (out, st') ∧ e = .returned v ∧ OB w' w.heap.size v out ∧ (∀ k, v.ownBlock = some k → ¬ S' k) ∧ Wk C L S' w' st' (tkF st') vS ∧ Stp S w S' w') ∨ (spec = none ∧ EndC C S w e w') ∨ EndI C S w e w'
theorem chainW_zero (img : List UInt8) (np f : Nat) (out : List UInt8) (st : P.St) : P.chainW img np f 0 out st = some (out, st) := by cases f <;> rfl
theorem chainW_succ (img : List UInt8) (np f n : Nat) (out : List UInt8) (st : P.St) (h0 : n ≠ 0) : P.chainW img np (f + 1) n out st = if P.free? np st n = true ∧ P.ptErr (P.pg img n) = 0 ∧ (out ++ P.ptL (P.pg img n)).length ≤ 1048576 then P.chainW img np f (P.ptN (P.pg img n)).toNat (out ++ P.ptL (P.pg img n)) (st.hit n 5) else none := by
  obtain ⟨m, rfl⟩ : ∃ m, n = m + 1 := ⟨n - 1, by omega⟩
  rfl
theorem ptL_le (b : List UInt8) : (P.ptL b).length ≤ 248 := by
  unfold P.ptL
  split
  · rename_i h
    obtain ⟨-, g1, g2, g3, g4, g5, g6⟩ := P.ptErr_zero h
    rw [List.length_take]
    omega
  · simp
theorem ptN_nat (b : List UInt8) : ∃ m : Nat, P.ptN b = (m : Int) ∧ m < 4096 := by
  unfold P.ptN
  split
  · rename_i h
    obtain ⟨-, g1, g2, g3, g4, g5, g6⟩ := P.ptErr_zero h
    rcases g5 with g5 | ⟨g5, g6, -⟩
    · exact ⟨0, by rw [g5]; rfl, by omega⟩
    · exact ⟨(P.nxt b).toNat, by omega, by omega⟩
  · exact ⟨0, rfl, by omega⟩
theorem tkF_hit5 {np : Nat} (st : P.St) (n : Nat) (h : P.free? np st n = true) : tkF (st.hit n 5) = tkF st := tkF_keep st n 5 (of_decide_eq_true h).1 (by omega)
set_option maxRecDepth 100000 in
set_option maxHeartbeats 3200000 in
theorem chain_any (C : AC) (Lo S : Nat → Prop) (st : P.St) (vS : Value) (n0 : Nat) (w : World) (h : Wk C Lo S w st (tkF st) vS) (hn0 : n0 < 1000000) :
    Calls Tryz.prog 62 #[.pointer (some ⟨C.q, 0, none⟩), .int .i64 (n0 : Int)] w (ChEnd C Lo S vS (P.chainW C.img C.np (C.np + 1) n0 [] st) w) := by
  have H := Lib.hid h
  have hnS : ∀ j, w.heap.size ≤ j → ¬ S j := fun j hj hs => by have := h.sets _ hs; omega
  have hcn := P.cnt_le C.np st
  clear h
  go_enter Tryz.func62, Tryz.ntmps62
  go_wp2
  go_loopg [1, 5] (C.np + 1) (fun gk pp vv wr => ∃ (n : Nat) (out : List UInt8) (sk : P.St) (Sk Lk : Nat → Prop), pp = .int .i64 (n : Int) ∧ n < 1000000 ∧ P.chainW C.img C.np (C.np + 1) n0 [] st = P.chainW C.img C.np gk n out sk ∧ C.np + 1 ≤ gk + P.cnt C.np sk ∧ (∃ a m c, vv = .slice a m c) ∧ OB wr w.heap.size vv out ∧ (∀ k, vv.ownBlock = some k → Lk k ∧ ¬ Sk k) ∧
    (∀ j, Lo j → Lk j) ∧ Wk C Lk Sk wr sk (tkF sk) vS ∧ Stp S w Sk wr ∧ out.length ≤ 1048576)
  case atStart => exact ⟨n0, [], st, S, Lo, rfl, hn0, rfl, by omega, ⟨_, _, _, rfl⟩, OB.nil _ _, (fun k hk => by simp [Value.ownBlock] at hk), (fun j hj => hj), H.out, Stp.refl _ _, by simp⟩
  case round =>
    obtain ⟨n, out, sk, Sk, Lk, rfl, hn, hspec, hf, ⟨va, vn, vc, rfl⟩, hob, hown, hLL, hwk, hst, hlen⟩ := hrel
    have hcn := P.cnt_le C.np sk
    have HSPEC := Lib.hid hspec
    have HOB := Lib.hid hob
    have HOWN := Lib.hid hown
    have HLL := Lib.hid hLL
    have HWK := Lib.hid hwk
    have HST := Lib.hid hst
    clear hspec hob hown hLL hwk hst
    by_cases hz : n = 0
    · subst hz
      have HFIN := Lib.hid (show ChEnd C Lo S vS (P.chainW C.img C.np (C.np + 1) n0 [] st) w (.returned (.slice va vn vc)) wr from .inl ⟨out, sk, Sk, _, HSPEC.out.trans (chainW_zero _ _ _ _ _), rfl, HOB.out, fun k hk => (HOWN.out k hk).2, HWK.out.less HLL.out, HST.out⟩)
      go_wp2
      go_ret
      exact HFIN.out
    · have q0 : ((n : Int) != 0) = true := by simp; omega
      obtain ⟨g1, hg1⟩ : ∃ g1, gk = g1 + 1 := ⟨gk - 1, by omega⟩
      have hsu := chainW_succ C.img C.np g1 n out sk hz
      rw [← hg1] at hsu
      have HSU := Lib.hid (HSPEC.out.trans hsu)
      have HG1 := Lib.hid hg1
      clear hsu hg1 hz
      rcases hfr : P.free? C.np sk n with _ | _
      · have HR := Lib.hid (reach_no C Lk Sk sk (tkF sk) vS n 5 wr HWK.out (by omega) (by omega) hn hfr)
        have HNO := Lib.hid (show P.chainW C.img C.np (C.np + 1) n0 [] st = none by rw [HSU.out, if_neg (by rw [hfr]; simp)])
        clear hfr
        go_wp2_with fail
        refine HR.out.mono ?_
        rintro e w2 ⟨rfl, hend⟩
        exact ⟨rfl, .inr (.inl ⟨HNO.out, EndC.after ⟨rfl, hend⟩ HST.out⟩)⟩
      · have HR := Lib.hid (reach_ok C Lk Sk sk (tkF sk) vS n 5 wr HWK.out (by omega) (by omega) hfr)
        have HFR := Lib.hid hfr
        have hpl := pg_length C.img C.np n HWK.out.1.page (of_decide_eq_true hfr).2.2
        have HTK := Lib.hid (tkF_hit5 sk n hfr)
        have HPL := Lib.hid hpl
        have hcf := P.free_lt hfr
        have HCK := Lib.hid (cnt_keep C.np sk n 5 (by omega) hfr)
        clear hfr hpl
        go_wp2_with fail
        refine HR.out.mono ?_
        rintro e w2 h
        rcases h with ⟨v, rfl, ho, hk2, hs2⟩ | ⟨rfl, hend⟩
        rotate_left
        · exact ⟨rfl, .inr (.inr (EndI.after ⟨rfl, hend⟩ HST.out))⟩
        obtain ⟨a2, c2, rfl, hr2, hc2, ha2, -⟩ := ho.form
        rw [HPL.out] at hr2 hc2 ⊢
        rw [← HTK.out] at hk2
        have HR2 := Lib.hid hr2
        have HK2 := Lib.hid hk2
        have HS2 := Lib.hid hs2
        clear ho hr2 hk2 hs2 ha2
        go_wp2_with fail
        refine (part_fun a2 256 c2 _ w2 HR2.out hc2).mono ?_
        rintro e w3 ⟨a3, n3, c3, rfl, hr3, hc3, ha3, hb3⟩
        have HK3 := Lib.hid (HK2.out.below hb3)
        have hS3 := HS2.out.trans (Stp.below hb3)
        have HS3 := Lib.hid hS3
        have HR3 := Lib.hid hr3
        have HOB3 := Lib.hid (HOB.out.chg hS3.1 (fun k hk => (HOWN.out k hk).2))
        have HOWN3 := Lib.hid (show ∀ k, (Value.slice va vn vc).ownBlock = some k → Lk k ∧ ¬ Sk k from HOWN.out)
        have hsz3 : w.heap.size ≤ w3.heap.size := (HST.out.trans hS3).1.size
        obtain ⟨m, hm, hm4⟩ := ptN_nat (P.pg C.img n)
        have h244 : (P.ptL (P.pg C.img n)).length ≤ 248 := ptL_le _
        have h3n := hr3.1
        clear hS3 hr3 ha3 hb3
        by_cases he : P.ptErr (P.pg C.img n) = 0
        rotate_left
        · have HNO := Lib.hid (show P.chainW C.img C.np (C.np + 1) n0 [] st = none by rw [HSU.out, if_neg (fun e => he e.2.1)])
          have HEC := Lib.hid (EndC.after HK3.out.endC (HST.out.trans HS3.out))
          have HX := Lib.hid (fun w => right_f (P.ptErr (P.pg C.img n)) he w)
          generalize P.ptErr (P.pg C.img n) = E at HX ⊢
          clear he hm
          go_wp2_with (go_at_call 80; refine (HX.out _).mono ?_; rintro e w4 ⟨rfl, rfl⟩)
          exact ⟨rfl, .inr (.inl ⟨HNO.out, HEC.out⟩)⟩
        have HE := Lib.hid he
        rw [he, hm]
        have HM := Lib.hid hm
        obtain ⟨Z, hZ⟩ : ∃ Z, Z = P.ptL (P.pg C.img n) := ⟨_, rfl⟩
        rw [← hZ] at HR3 h3n h244
        have HZ := Lib.hid hZ
        have H3N := Lib.hid h3n
        have h3le : n3 ≤ 248 := by omega
        clear he hm hZ h3n
        go_wp2_with (first | (go_at_call 80; refine (right_t _).mono ?_; rintro e w5 ⟨rfl, rfl⟩) | (at_builtin; refine wpList_app _ rfl _ _ rfl w.heap.size _ _ rfl HOB3.out _ _ _ Z rfl HR3.out ?c1 hsz3 ?_))
        case c1 => omega
        intro v4 w4 ho4 hg4 hat4
        have hgr := grown_chg hg4
        have hwk4 := HK3.out.grow (X := fun j => w3.heap.size ≤ j ∧ j < w4.heap.size) hgr (fun j _ e => HOWN3.out j e.symm) (fun j e => e)
        have hs4 : Stp Sk w3 Sk w4 ∨ True := .inr trivial
        have hown4 : ∀ k, v4.ownBlock = some k → addL Lk (fun j => w3.heap.size ≤ j ∧ j < w4.heap.size) k ∧ ¬ Sk k := fun k hk => by
          rcases hat4 with e | e
          · have := HOWN3.out k (by rw [← e]; exact hk)
            exact ⟨.inl this.1, this.2⟩
          · rw [e] at hk
            cases hk
            refine ⟨.inr ⟨Nat.le_refl _, ?_⟩, fun hs => ?_⟩
            · obtain ⟨c, hc⟩ := ho4.kind w3.heap.size e
              exact lt_of_block hc
            · have := HK3.out.sets _ hs
              omega
        have hst4 : Stp S w Sk w4 := by
          have T1 := HST.out.trans HS3.out
          exact ⟨T1.1.then hgr (fun i hi e => by
            have := (World.ownsRow.lt HOB3.out i e.symm).1
            omega), T1.2⟩
        obtain ⟨a4, c4, hv4, -⟩ := ho4.form
        subst hv4
        obtain ⟨O4, hO4⟩ : ∃ O4, O4 = out ++ Z := ⟨_, rfl⟩
        rw [← hO4] at ho4 hown4 ⊢
        have HO4 := Lib.hid hO4
        have HOB4 := Lib.hid ho4
        have HOWN4 := Lib.hid hown4
        have HWK4 := Lib.hid hwk4
        have HST4 := Lib.hid hst4
        obtain ⟨l4, hl4⟩ : ∃ l4, l4 = O4.length := ⟨_, rfl⟩
        rw [← hl4] at HOB4 HOWN4 ⊢
        have HL4 := Lib.hid hl4
        clear ho4 hg4 hat4 hgr hwk4 hown4 hst4 hO4 hs4 hl4
        by_cases hle : l4 ≤ 1048576
        · have q4 : decide ((l4 : Int) ≤ 1048576) = true := decide_eq_true (by omega)
          have HNX := Lib.hid (show P.chainW C.img C.np (C.np + 1) n0 [] st = P.chainW C.img C.np g1 m O4 (sk.hit n 5) by
            rw [HSU.out, if_pos ⟨HFR.out, HE.out, by rw [← HZ.out, ← HO4.out, ← HL4.out]; exact hle⟩, HM.out, ← HZ.out, ← HO4.out]
            rfl)
          go_wp2_with (first | (go_at_call 59; refine (must_t _).mono ?_; rintro e w5 ⟨rfl, rfl⟩))
          go_roundg g1
          case measure => have := HG1.out; omega
          case rel => exact ⟨m, O4, sk.hit n 5, Sk, _, rfl, by omega, HNX.out, by have := HCK.out; have := HG1.out; omega, ⟨_, _, _, rfl⟩, HOB4.out, HOWN4.out, fun j hj => .inl (HLL.out j hj), HWK4.out, HST4.out, by rw [← HL4.out]; exact hle⟩
        · have q4 : decide ((l4 : Int) ≤ 1048576) = false := decide_eq_false (by omega)
          have HNO := Lib.hid (show P.chainW C.img C.np (C.np + 1) n0 [] st = none by
            rw [HSU.out, if_neg (fun e => hle (by rw [HL4.out, HO4.out, HZ.out]; exact e.2.2))])
          have HEC := Lib.hid (EndC.after HWK4.out.endC HST4.out)
          go_wp2_with (first | (go_at_call 59; refine (must_f _).mono ?_; rintro e w5 ⟨rfl, rfl⟩))
          exact ⟨rfl, .inr (.inl ⟨HNO.out, HEC.out⟩)⟩
end Go.Proofs.YtnjpaanjgbfbaaaGreat
/- The reference's walker in memory. -/
namespace Go.Proofs.YtnjpaanjgbfbaaaGreat
set_option linter.unusedVariables false
set_option linter.unusedSimpArgs false
open Go.RowKit

/-- Where the reference's walk's memory lies, and over what it goes. -/
structure RC where
  B : Nat
  q : Nat
  g : Nat
  a : Option Addr
  c : Nat
  np : Nat
  img : List UInt8
/-- What holds of these all along. -/
def RC.ok (C : RC) : Prop := C.q < C.B ∧ C.g < C.B ∧ C.q ≠ C.g ∧ (∀ p, C.a = some p → p.block < C.B ∧ p.block ≠ C.q ∧ p.block ≠ C.g) ∧ 256 * C.np ≤ C.c ∧ 8 ≤ C.np ∧ C.np ≤ 4096 ∧ C.img.length = 256 * C.np
def rwC (C : RC) (vP vT vS : Value) (bad : Bool) : Array Value :=
  #[.slice C.a (256 * C.np) C.c, .slice (some ⟨C.g, 0, none⟩) C.np C.np, .int .i64 0, .int .i64 0, .int .i64 0, .int .i64 0, .int .i64 0, .int .i64 0, .int .i64 0, .int .i64 0, .int .i64 0, vP, vT, vS, .slice none 0 0, .int .i64 0, .bool bad]
/-- What a kind's byte says of what was met. -/
def KindOf (np : Nat) (ks : List UInt8) (m : Nat → Nat) : Prop := ks.length = np ∧ ∀ (i : Nat) (hi : i < ks.length), (ks[i].toNat = 0 ↔ m i = 0) ∧ (ks[i].toNat = 120 ↔ m i = 4)
/-- The walk's own blocks. -/
def RS (C : RC) (S : Nat → Prop) : Prop := S C.q ∧ S C.g ∧ ∀ j, S j → j = C.q ∨ j = C.g ∨ C.B ≤ j
def RW (C : RC) (S : Nat → Prop) (w : World) (st : P.St) (vS : Value) (bad : Bool) : Prop :=
  (C.ok ∧ C.B ≤ w.heap.size) ∧ (∀ j, S j → j < w.heap.size) ∧ RS C S ∧ Rd w C.a (256 * C.np) C.img ∧ st.tx.length ≤ 248 * st.ps.length ∧ (∀ k, st.met k ≠ 0 → 2 ≤ k ∧ k < C.np) ∧
  ∃ vP vT ks, w.heap[C.q]? = some (.cells (rwC C vP vT vS bad) 116 (0, 0)) ∧ w.heap[C.g]? = some (.cells (bvs ks).toArray 5 (0, 0)) ∧ KindOf C.np ks st.met ∧
    OV w C.B 59 4 vP st.ps.length (qCs st.ps) ∧ OB w C.B vT st.tx ∧ (∀ k, vP.ownBlock = some k → S k) ∧ (∀ k, vT.ownBlock = some k → S k) ∧ (∀ k, vP.ownBlock = some k → vT.ownBlock ≠ some k)
section
variable {C : RC} {S S' : Nat → Prop} {w w' : World} {st : P.St} {vS : Value} {bad : Bool}
theorem RW.sets (h : RW C S w st vS bad) (j : Nat) (hj : S j) : j < w.heap.size := h.2.1 j hj
theorem RW.okc (h : RW C S w st vS bad) : C.ok := h.1.1
theorem RW.ge (h : RW C S w st vS bad) : C.B ≤ w.heap.size := h.1.2
theorem RW.cells (h : RW C S w st vS bad) : ∃ vP vT, w.heap[C.q]? = some (.cells (rwC C vP vT vS bad) 116 (0, 0)) := by
  obtain ⟨-, -, -, -, -, -, vP, vT, ks, h1, -⟩ := h
  exact ⟨vP, vT, h1⟩
/-- A block is written that is none of the walk's own. -/
theorem RW.chg {T : Nat → Prop} (h : RW C S w st vS bad) (hc : Chg T w w') (hT : ∀ j, j < w.heap.size → T j → ¬ S j) (hA : ∀ j, j < w.heap.size → T j → C.B ≤ j) : RW C S w' st vS bad := by
  obtain ⟨⟨hok, hB0⟩, h1, h2, h3, h4, h5, vP, vT, ks, k1, k2, k3, k4, k5, k6, k7, k8⟩ := h
  have hcT : Chg (fun j => j < w.heap.size ∧ T j) w w' := hc.mono fun j hj e => ⟨hj, e⟩
  have hn : ∀ k, S k → ¬ (k < w.heap.size ∧ T k) := fun k hk e => hT k e.1 e.2 hk
  refine ⟨⟨hok, Nat.le_trans hB0 hc.size⟩, fun j hj => Nat.lt_of_lt_of_le (h1 j hj) hc.size, h2, h3.chg hcT (fun p e ht => ?_), h4, h5, vP, vT, ks, (hcT.block _ (lt_of_block k1) (hn _ h2.1)).trans k1, (hcT.block _ (lt_of_block k2) (hn _ h2.2.1)).trans k2, k3, OVc.chg k4 hcT (fun k hk => hn _ (k6 k hk)), k5.chg hcT (fun k hk => hn _ (k7 k hk)), k6, k7, k8⟩
  have := hA _ ht.1 ht.2
  have := (hok.2.2.2.1 p e).1
  omega
theorem RW.below (h : RW C S w st vS bad) (hb : Below w.heap.size w w') : RW C S w' st vS bad := h.chg (Chg.of_below hb (fun _ => False)) (fun _ _ e => e.elim) (fun _ _ e => e.elim)
theorem RW.local (h : RW C S w st vS bad) (j : Nat) (hj : C.B ≤ j) (hS : ¬ S j) (hc : Chg (fun k => k = j) w w') : RW C S w' st vS bad := h.chg hc (fun k _ e => e ▸ hS) (fun k _ e => e ▸ hj)
theorem RW.q_ne (h : RW C S w st vS bad) : C.q ≠ C.g := h.1.1.2.2.1
/-- The walker's flag. -/
theorem RW.flag (h : RW C S w st vS bad) (b : Bool) : RW C S (w.setCell ⟨C.q, 16, none⟩ (.bool b)) st vS b ∧ Stp S w S (w.setCell ⟨C.q, 16, none⟩ (.bool b)) := by
  obtain ⟨⟨hok, hB0⟩, h1, h2, h3, h4, h5, vP, vT, ks, k1, k2, k3, k4, k5, k6, k7, k8⟩ := h
  have hc := setCell_chg w C.q 16 (.bool b)
  have hP : ∀ k, vP.ownBlock = some k → ¬ k = C.q := fun k hk e => by have := (World.ownsRow.lt k4 k hk).1; have := hok.1; omega
  have hX : ∀ k, vT.ownBlock = some k → ¬ k = C.q := fun k hk e => by have := (World.ownsRow.lt k5 k hk).1; have := hok.1; omega
  refine ⟨⟨⟨hok, Nat.le_trans hB0 hc.size⟩, fun j hj => by have := h1 j hj; simpa [World.setCell] using this, h2, h3.chg hc (fun p e => (hok.2.2.2.1 p e).2.1), h4, h5, vP, vT, ks, ?_, (hc.block _ (lt_of_block k2) (Ne.symm hok.2.2.1)).trans k2, k3, OVc.chg k4 hc hP, k5.chg hc hX, k6, k7, k8⟩, Stp.of hc (fun j e => e ▸ h2.1)⟩
  rw [blk_setCell k1]
  rfl
/-- The state's bytes are laid into the report. -/
theorem RW.state (h : RW C S w st vS bad) (v : Value) : RW C S (w.setCell ⟨C.q, 13, none⟩ v) st v bad ∧ Stp S w S (w.setCell ⟨C.q, 13, none⟩ v) := by
  obtain ⟨⟨hok, hB0⟩, h1, h2, h3, h4, h5, vP, vT, ks, k1, k2, k3, k4, k5, k6, k7, k8⟩ := h
  have hc := setCell_chg w C.q 13 v
  have hP : ∀ k, vP.ownBlock = some k → ¬ k = C.q := fun k hk e => by have := (World.ownsRow.lt k4 k hk).1; have := hok.1; omega
  have hX : ∀ k, vT.ownBlock = some k → ¬ k = C.q := fun k hk e => by have := (World.ownsRow.lt k5 k hk).1; have := hok.1; omega
  refine ⟨⟨⟨hok, Nat.le_trans hB0 hc.size⟩, fun j hj => by have := h1 j hj; simpa [World.setCell] using this, h2, h3.chg hc (fun p e => (hok.2.2.2.1 p e).2.1), h4, h5, vP, vT, ks, ?_, (hc.block _ (lt_of_block k2) (Ne.symm hok.2.2.1)).trans k2, k3, OVc.chg k4 hc hP, k5.chg hc hX, k6, k7, k8⟩, Stp.of hc (fun j e => e ▸ h2.1)⟩
  rw [blk_setCell k1]
  rfl
theorem KindOf.hit {np n k : Nat} {ks : List UInt8} {m : Nat → Nat} (h : KindOf np ks m) (hn : n < np) (c : UInt8) (hk : k ≠ 0) (hc : c.toNat ≠ 0) (hck : c.toNat = 120 ↔ k = 4) : KindOf np (ks.set n c) (fun i => if i = n then k else m i) := by
  refine ⟨by rw [List.length_set]; exact h.1, fun i hi => ?_⟩
  rw [List.length_set] at hi
  by_cases e : i = n
  · subst e
    rw [List.getElem_set_self]
    simp only [if_pos]
    exact ⟨⟨fun e => absurd e hc, fun e => absurd e hk⟩, hck⟩
  · rw [List.getElem_set_ne (Ne.symm e)]
    simp only [if_neg e]
    exact h.2 i hi
/-- A page's kind is laid. -/
theorem RW.kind (h : RW C S w st vS bad) (n k : Nat) (c : UInt8) (hn : n < C.np) (hn2 : 2 ≤ n) (hk : k ≠ 0) (hc0 : c.toNat ≠ 0) (hck : c.toNat = 120 ↔ k = 4) :
    RW C S (w.setCell ⟨C.g, n, none⟩ (bv c)) (st.hit n k) vS bad ∧ Stp S w S (w.setCell ⟨C.g, n, none⟩ (bv c)) := by
  obtain ⟨⟨hok, hB0⟩, h1, h2, h3, h4, h5, vP, vT, ks, k1, k2, k3, k4, k5, k6, k7, k8⟩ := h
  have hc := setCell_chg w C.g n (bv c)
  have hP : ∀ k, vP.ownBlock = some k → ¬ k = C.g := fun k hk e => by have := (World.ownsRow.lt k4 k hk).1; have := hok.2.1; omega
  have hX : ∀ k, vT.ownBlock = some k → ¬ k = C.g := fun k hk e => by have := (World.ownsRow.lt k5 k hk).1; have := hok.2.1; omega
  refine ⟨⟨⟨hok, Nat.le_trans hB0 hc.size⟩, fun j hj => by have := h1 j hj; simpa [World.setCell] using this, h2, h3.chg hc (fun p e => (hok.2.2.2.1 p e).2.2), h4, fun i hi => ?_, vP, vT, ks.set n c, (hc.block _ (lt_of_block k1) hok.2.2.1).trans k1, ?_, k3.hit hn c hk hc0 hck, OVc.chg k4 hc hP, k5.chg hc hX, k6, k7, k8⟩, Stp.of hc (fun j e => e ▸ h2.2.1)⟩
  · unfold P.St.hit at hi
    simp only at hi
    by_cases e : i = n
    · subst e; exact ⟨hn2, hn⟩
    · rw [if_neg e] at hi; exact h5 i hi
  · rw [blk_setCell k2]
    congr 2
    simp [bvs, List.map_set]
/-- What page n's kind reads as. -/
theorem RW.kindAt (h : RW C S w st vS bad) (n : Nat) (hn : n < C.np) : ∃ x : UInt8, w.cell? ⟨C.g, n, none⟩ = some (bv x) ∧ w.frozen? ⟨C.g, n, none⟩ = false ∧ (x.toNat = 0 ↔ st.met n = 0) ∧ (x.toNat = 120 ↔ st.met n = 4) := by
  obtain ⟨⟨hok, hB0⟩, h1, h2, h3, h4, h5, vP, vT, ks, k1, k2, k3, k4, k5, k6, k7, k8⟩ := h
  have hl : n < ks.length := by rw [k3.1]; exact hn
  refine ⟨ks[n], ?_, free_blk k2 n, k3.2 n hl⟩
  rw [cell_blk k2]
  simp [bvs, hl]
theorem hit_same (st : P.St) (n k : Nat) (h : st.met n = k) : st.hit n k = st := by
  unfold P.St.hit
  congr 1
  funext m
  by_cases e : m = n
  · rw [if_pos e, e, h]
  · rw [if_neg e]
/-- A piece is told. -/
theorem RW.addP (h : RW C S w st vS bad) : ∃ vP vT, w.heap[C.q]? = some (.cells (rwC C vP vT vS bad) 116 (0, 0)) ∧ OV w C.B 59 4 vP st.ps.length (qCs st.ps) ∧ (∀ k, vP.ownBlock = some k → S k ∧ C.B ≤ k) ∧
    (∀ W w5 v5 x, Below w.heap.size w W → W.grownBy w5 vP.ownBlock → (v5.ownBlock = vP.ownBlock ∨ v5.ownBlock = some W.heap.size) → OV w5 C.B 59 4 v5 (st.ps.length + 1) (qCs st.ps ++ qC x) →
      w5.heap[C.q]? = some (.cells (rwC C vP vT vS bad) 116 (0, 0)) ∧ (w5.setCell ⟨C.q, 11, none⟩ v5).heap[C.q]? = some (.cells (rwC C v5 vT vS bad) 116 (0, 0)) ∧ ∃ S', RW C S' (w5.setCell ⟨C.q, 11, none⟩ v5) ⟨st.met, st.ps ++ [x], st.tx⟩ vS bad ∧ Stp S w S' (w5.setCell ⟨C.q, 11, none⟩ v5)) := by
  obtain ⟨⟨hok, hB0⟩, h1, h2, h3, h4, h5, vP, vT, ks, k1, k2, k3, k4, k5, k6, k7, k8⟩ := h
  refine ⟨vP, vT, k1, k4, fun k hk => ⟨k6 k hk, (World.ownsRow.lt k4 k hk).1⟩, fun W w5 v5 x hb hg hat ho => ?_⟩
  have hPB : ∀ k, vP.ownBlock = some k → C.B ≤ k := fun k hk => (World.ownsRow.lt k4 k hk).1
  have hTB : ∀ k, vT.ownBlock = some k → C.B ≤ k := fun k hk => (World.ownsRow.lt k5 k hk).1
  have h5B : ∀ k, v5.ownBlock = some k → C.B ≤ k ∧ k < w5.heap.size := fun k hk => ⟨(World.ownsRow.lt ho k hk).1, by obtain ⟨c, hc⟩ := ho.kind k hk; exact lt_of_block hc⟩
  have hc5 : Chg (fun j => some j = vP.ownBlock) w w5 := (Chg.of_below hb _).trans (grown_chg hg)
  have hq5 : w5.heap[C.q]? = some (.cells (rwC C vP vT vS bad) 116 (0, 0)) := (hc5.block _ (lt_of_block k1) (fun e => by have := hPB _ e.symm; have := hok.1; omega)).trans k1
  have hcc : Chg (fun j => some j = vP.ownBlock ∨ j = C.q) w (w5.setCell ⟨C.q, 11, none⟩ v5) := (hc5.mono fun j _ e => .inl e).trans ((Chg.refl _ w5).setCell _ _ (.inr (.inr rfl)))
  have hS' : ∀ j, j < w.heap.size → (S j ∨ v5.ownBlock = some j) → S j := fun j hj e => by
    rcases e with e | e
    · exact e
    · rcases hat with e2 | e2
      · exact k6 j (by rw [← e2]; exact e)
      · rw [e2] at e
        cases e
        have := hb.size
        omega
  have hq6 : (w5.setCell ⟨C.q, 11, none⟩ v5).heap[C.q]? = some (.cells (rwC C v5 vT vS bad) 116 (0, 0)) := by
    rw [blk_setCell hq5]
    rfl
  refine ⟨hq5, hq6, fun j => S j ∨ v5.ownBlock = some j, ⟨⟨hok, Nat.le_trans hB0 hcc.size⟩, fun j e => ?_, ⟨.inl h2.1, .inl h2.2.1, fun j e => ?_⟩, h3.chg hcc (fun p e ht => ?_), ?_, h5, v5, vT, ks, hq6, (hcc.block _ (lt_of_block k2) (fun e => ?_)).trans k2, k3, ?_, k5.chg hcc (fun k hk e => ?_), fun k hk => .inr hk, fun k hk => .inl (k7 k hk), fun k hk e => ?_⟩, ⟨hcc.mono fun j _ e => ?_, hS'⟩⟩
  · have : j < w5.heap.size := by
      rcases e with e | e
      · exact Nat.lt_of_lt_of_le (h1 j e) hc5.size
      · exact (h5B j e).2
    simpa [World.setCell] using this
  · rcases e with e | e
    · exact h2.2.2 j e
    · exact .inr (.inr (h5B j e).1)
  · have h9 := hok.2.2.2.1 p e
    rcases ht with ht | ht
    · have := hPB _ ht.symm
      omega
    · exact h9.2.1 ht
  · simp
    omega
  · rcases e with e | e
    · have := hPB _ e.symm
      have := hok.2.1
      omega
    · exact hok.2.2.1 e.symm
  · show OV _ _ _ _ _ (st.ps ++ [x]).length (qCs (st.ps ++ [x]))
    rw [qCs_add, List.length_append]
    exact OVc.chg ho (setCell_chg _ _ _ _) (fun k hk e => by have := (h5B k hk).1; have := hok.1; omega)
  · rcases e with e | e
    · exact k8 k e.symm hk
    · have := hTB k hk
      have := hok.1
      omega
  · rcases hat with e2 | e2
    · rw [e2] at hk
      exact k8 k hk e
    · rw [e2] at hk
      cases hk
      have := h1 _ (k7 _ e)
      have := hb.size
      omega
  · rcases e with e | e
    · exact k6 j e.symm
    · exact e ▸ h2.1
/-- Its bytes are told. -/
theorem RW.addT (h : RW C S w st vS bad) : ∃ vP vT, w.heap[C.q]? = some (.cells (rwC C vP vT vS bad) 116 (0, 0)) ∧ OB w C.B vT st.tx ∧ (∀ k, vT.ownBlock = some k → S k ∧ C.B ≤ k) ∧
    (∀ W w5 v5 x, Below w.heap.size w W → W.grownBy w5 vT.ownBlock → (v5.ownBlock = vT.ownBlock ∨ v5.ownBlock = some W.heap.size) → OB w5 C.B v5 (st.tx ++ x) → (st.tx ++ x).length ≤ 248 * st.ps.length →
      w5.heap[C.q]? = some (.cells (rwC C vP vT vS bad) 116 (0, 0)) ∧ (w5.setCell ⟨C.q, 12, none⟩ v5).heap[C.q]? = some (.cells (rwC C vP v5 vS bad) 116 (0, 0)) ∧ ∃ S', RW C S' (w5.setCell ⟨C.q, 12, none⟩ v5) ⟨st.met, st.ps, st.tx ++ x⟩ vS bad ∧ Stp S w S' (w5.setCell ⟨C.q, 12, none⟩ v5)) := by
  obtain ⟨⟨hok, hB0⟩, h1, h2, h3, h4, h5, vP, vT, ks, k1, k2, k3, k4, k5, k6, k7, k8⟩ := h
  refine ⟨vP, vT, k1, k5, fun k hk => ⟨k7 k hk, (World.ownsRow.lt k5 k hk).1⟩, fun W w5 v5 x hb hg hat ho hbd => ?_⟩
  have hPB : ∀ k, vP.ownBlock = some k → C.B ≤ k := fun k hk => (World.ownsRow.lt k4 k hk).1
  have hTB : ∀ k, vT.ownBlock = some k → C.B ≤ k := fun k hk => (World.ownsRow.lt k5 k hk).1
  have h5B : ∀ k, v5.ownBlock = some k → C.B ≤ k ∧ k < w5.heap.size := fun k hk => ⟨(World.ownsRow.lt ho k hk).1, by obtain ⟨c, hc⟩ := ho.kind k hk; exact lt_of_block hc⟩
  have hc5 : Chg (fun j => some j = vT.ownBlock) w w5 := (Chg.of_below hb _).trans (grown_chg hg)
  have hq5 : w5.heap[C.q]? = some (.cells (rwC C vP vT vS bad) 116 (0, 0)) := (hc5.block _ (lt_of_block k1) (fun e => by have := hTB _ e.symm; have := hok.1; omega)).trans k1
  have hcc : Chg (fun j => some j = vT.ownBlock ∨ j = C.q) w (w5.setCell ⟨C.q, 12, none⟩ v5) := (hc5.mono fun j _ e => .inl e).trans ((Chg.refl _ w5).setCell _ _ (.inr (.inr rfl)))
  have hS' : ∀ j, j < w.heap.size → (S j ∨ v5.ownBlock = some j) → S j := fun j hj e => by
    rcases e with e | e
    · exact e
    · rcases hat with e2 | e2
      · exact k7 j (by rw [← e2]; exact e)
      · rw [e2] at e
        cases e
        have := hb.size
        omega
  have hq6 : (w5.setCell ⟨C.q, 12, none⟩ v5).heap[C.q]? = some (.cells (rwC C vP v5 vS bad) 116 (0, 0)) := by
    rw [blk_setCell hq5]
    rfl
  refine ⟨hq5, hq6, fun j => S j ∨ v5.ownBlock = some j, ⟨⟨hok, Nat.le_trans hB0 hcc.size⟩, fun j e => ?_, ⟨.inl h2.1, .inl h2.2.1, fun j e => ?_⟩, h3.chg hcc (fun p e ht => ?_), hbd, h5, vP, v5, ks, hq6, (hcc.block _ (lt_of_block k2) (fun e => ?_)).trans k2, k3, OVc.chg k4 hcc (fun k hk e => ?_), ?_, fun k hk => .inl (k6 k hk), fun k hk => .inr hk, fun k hk e => ?_⟩, ⟨hcc.mono fun j _ e => ?_, hS'⟩⟩
  · have : j < w5.heap.size := by
      rcases e with e | e
      · exact Nat.lt_of_lt_of_le (h1 j e) hc5.size
      · exact (h5B j e).2
    simpa [World.setCell] using this
  · rcases e with e | e
    · exact h2.2.2 j e
    · exact .inr (.inr (h5B j e).1)
  · have h9 := hok.2.2.2.1 p e
    rcases ht with ht | ht
    · have := hTB _ ht.symm
      omega
    · exact h9.2.1 ht
  · rcases e with e | e
    · have := hTB _ e.symm
      have := hok.2.1
      omega
    · exact hok.2.2.1 e.symm
  · rcases e with e | e
    · exact k8 k hk e.symm
    · have := hPB k hk
      have := hok.1
      omega
  · exact OB.chg ho (setCell_chg _ _ _ _) (fun k hk e => by have := (h5B k hk).1; have := hok.1; omega)
  · rcases hat with e2 | e2
    · rw [e2] at e
      exact k8 k hk e
    · rw [e2] at e
      cases e
      have := h1 _ (k6 _ hk)
      have := hb.size
      omega
  · rcases e with e | e
    · exact k7 j e.symm
    · exact e ▸ h2.1
end
end Go.Proofs.YtnjpaanjgbfbaaaGreat
/- The reference's walker: page. -/
namespace Go.Proofs.YtnjpaanjgbfbaaaGreat
set_option linter.unusedVariables false
set_option linter.unusedSimpArgs false
open Go.RowKit

/-- May page n be met as this kind? -/
def pgOk (np : Nat) (st : P.St) (n : Nat) (c : UInt8) : Prop := P.free? np st n = true ∨ (c.toNat = 120 ∧ st.met n = 4)
/-- How page ends. -/
def PgEnd (C : RC) (S : Nat → Prop) (st : P.St) (vS : Value) (n k : Nat) (c : UInt8) (w : World) (e : Ending) (w' : World) : Prop :=
  (pgOk C.np st n c ∧ ∃ p cp, e = .returned (.slice (some p) 256 cp) ∧ 256 ≤ cp ∧ Rd w' (some p) 256 (P.pg C.img n) ∧ p.block < C.B ∧ RW C S w' (st.hit n k) vS false ∧ Stp S w S w') ∨
  (¬ pgOk C.np st n c ∧ e = .returned (.slice none 0 0) ∧ RW C S w' st vS true ∧ Stp S w S w')
theorem RW.pg {C : RC} {S : Nat → Prop} {w : World} {st : P.St} {vS : Value} {bad : Bool} (h : RW C S w st vS bad) (n : Nat) (hn : n < C.np) : ∃ p, C.a = some p ∧ Rd w (some (p.add (n * 256))) 256 (P.pg C.img n) := by
  have hr := h.2.2.2.1
  have hl := h.1.1.2.2.2.2.2.2.2
  obtain ⟨p, e, -⟩ := hr.at 0 (by have := h.1.1.2.2.2.2.2.1; omega)
  refine ⟨p, e, ?_⟩
  rw [e] at hr
  have h1 := hr.cut (n * 256) 256 (by omega)
  have e2 : P.slice C.img (n * 256) 256 = P.pg C.img n := by
    unfold P.slice P.pg
    rw [Nat.mul_comm]
  rwa [e2] at h1
set_option maxRecDepth 100000 in
set_option maxHeartbeats 1600000 in
theorem page_any (C : RC) (S : Nat → Prop) (st : P.St) (vS : Value) (n k : Nat) (c : UInt8) (w : World) (h : RW C S w st vS false) (hn : n < 1000000) (hk : k ≠ 0) (hc0 : c.toNat ≠ 0) (hck : c.toNat = 120 ↔ k = 4) :
    Calls Tryz.prog 67 #[.pointer (some ⟨C.q, 0, none⟩), .int .i64 (n : Int), .int .u8 (c.toNat : Int)] w (PgEnd C S st vS n k c w) := by
  obtain ⟨vP, vT, hq⟩ := h.cells
  have g := cell_blk hq
  have fq := free_blk hq
  unfold rwC at g
  have hok := h.okc
  have hc256 := c.toNat_lt
  have hnp : C.np ≤ 4096 := hok.2.2.2.2.2.2.1
  by_cases hin : 2 ≤ n ∧ n < C.np
  rotate_left
  · have hno : ¬ pgOk C.np st n c := fun e => by
      rcases e with e | e
      · exact hin (of_decide_eq_true e).2
      · exact hin (h.2.2.2.2.2.1 n (by omega))
    have HF := Lib.hid (h.flag true)
    have HNO := Lib.hid hno
    clear h hno hq hok
    by_cases h2 : n < 2
    · have i1 : decide ((n : Int) < 2) = true := decide_eq_true (by omega)
      clear hin h2
      go_enter Tryz.func67, Tryz.ntmps67
      go_wp2
      go_ret
      exact .inr ⟨HNO.out, rfl, HF.out.1, HF.out.2⟩
    · have i1 : decide ((n : Int) < 2) = false := decide_eq_false (by omega)
      have i2 : decide ((C.np : Int) ≤ (n : Int)) = true := decide_eq_true (by omega)
      have i3 : decide (C.np ≤ n) = true := decide_eq_true (by omega)
      clear hin h2
      go_enter Tryz.func67, Tryz.ntmps67
      go_wp2
      go_ret
      exact .inr ⟨HNO.out, rfl, HF.out.1, HF.out.2⟩
  · obtain ⟨h2, hlt⟩ := hin
    obtain ⟨x, hx, fx, x0, x4⟩ := h.kindAt n hlt
    unfold bv at hx
    have i1 : decide ((n : Int) < 2) = false := decide_eq_false (by omega)
    have i2 : decide ((C.np : Int) ≤ (n : Int)) = false := decide_eq_false (by omega)
    have i3 : decide (C.np ≤ n) = false := decide_eq_false (by omega)
    have i4 : (0 : Int) ≤ (n : Int) := by omega
    have i5 : (n : Int) < (C.np : Int) := by omega
    have X0 := Lib.hid x0
    have X4 := Lib.hid x4
    clear x0 x4
    by_cases hp : pgOk C.np st n c
    rotate_left
    · have HF := Lib.hid (h.flag true)
      have HNO := Lib.hid hp
      have e0 : ¬ x.toNat = 0 := fun e => HNO.out (.inl (decide_eq_true ⟨X0.out.1 e, h2, hlt⟩))
      have e1 : ((x.toNat : Int) != 0) = true := by simp; omega
      have ec : ¬ c.toNat = 120 ∨ (c.toNat = 120 ∧ ¬ x.toNat = 120) := by
        by_cases e : c.toNat = 120
        · exact .inr ⟨e, fun e2 => HNO.out (.inr ⟨e, X4.out.1 e2⟩)⟩
        · exact .inl e
      clear h hq hok hp e0
      rcases ec with e | ⟨e, e2⟩
      · have e3 : ((c.toNat : Int) != 120) = true := by simp; omega
        clear e
        go_enter Tryz.func67, Tryz.ntmps67
        go_wp2
        go_ret
        exact .inr ⟨HNO.out, rfl, HF.out.1, HF.out.2⟩
      · have e3 : ((c.toNat : Int) != 120) = false := by simp; omega
        have e4 : ((x.toNat : Int) != 120) = true := by simp; omega
        clear e e2
        go_enter Tryz.func67, Tryz.ntmps67
        go_wp2
        go_ret
        exact .inr ⟨HNO.out, rfl, HF.out.1, HF.out.2⟩
    · have HK := Lib.hid (h.kind n k c hlt h2 hk hc0 hck)
      obtain ⟨p, hpa, -⟩ := h.pg n hlt
      have HP := Lib.hid hp
      have HOK := Lib.hid hok
      have l1 : 256 * C.np ≤ C.c := hok.2.2.2.2.1
      have l2 : (256 * C.np : Int) ≤ (C.c : Int) := by omega
      obtain ⟨M, hM⟩ : ∃ M : Nat, M = n * 256 := ⟨_, rfl⟩
      obtain ⟨M2, hM2⟩ : ∃ M2 : Nat, M2 = (n + 1) * 256 := ⟨_, rfl⟩
      obtain ⟨NP, hNP⟩ : ∃ NP : Nat, NP = 256 * C.np := ⟨_, rfl⟩
      have m1 : (n : Int) * 256 = (M : Int) := by omega
      have m2 : ((n : Int) + 1) * 256 = (M2 : Int) := by omega
      have m3 : (M : Int) ≤ (M2 : Int) := by omega
      have m4 : (M2 : Int) ≤ (NP : Int) := by omega
      have m5 : M2 - M = 256 := by omega
      have m6 : ¬ C.c = M := by omega
      have m7 : (NP : Int) ≤ (C.c : Int) := by omega
      have m8 : (NP : Int) ≤ 1048576 := by omega
      have m9 : NP ≤ C.c := by omega
      have HM := Lib.hid hM
      have HNP := Lib.hid hNP
      have hne := h.q_ne
      have g2 := fun i => cell_blk hq i
      rw [hpa] at g
      rw [← hNP] at g
      have hqk : ∀ i, (w.setCell ⟨C.g, n, none⟩ (.int .u8 (c.toNat : Int))).cell? ⟨C.q, i, none⟩ = w.cell? ⟨C.q, i, none⟩ := fun i => World.cell?_setCell_other _ _ _ _ (by intro e; injection e with e; exact hne e.symm)
      have HPA := Lib.hid hpa
      have HC := Lib.hid m9
      have ec : ((x.toNat : Int) != 0) = false ∨ (((x.toNat : Int) != 0) = true ∧ ((c.toNat : Int) != 120) = false ∧ ((x.toNat : Int) != 120) = false) := by
        rcases hp with e | ⟨e, e2⟩
        · have := X0.out.2 (of_decide_eq_true e).1
          exact .inl (by simp; omega)
        · have := X4.out.2 e2
          refine .inr ⟨by simp; omega, by simp; omega, by simp; omega⟩
      clear h hq hok hp hM hM2 hNP hpa l1 l2 m9 g2
      rcases ec with e | ⟨e, e2, e3⟩
      all_goals
        go_enter Tryz.func67, Tryz.ntmps67
        go_wp2
        go_ret
        have hpg : Rd (w.setCell ⟨C.g, n, none⟩ (bv c)) (some (p.add M)) 256 (P.pg C.img n) := by
          obtain ⟨p', e', hr⟩ := HK.out.1.pg n hlt
          rw [HPA.out] at e'
          cases e'
          rw [HM.out]
          exact hr
        exact .inl ⟨HP.out, p.add M, _, rfl, by have := HC.out; have := HNP.out; have := HM.out; omega, hpg, by rw [add_block]; exact (HOK.out.2.2.2.1 p HPA.out).1, HK.out.1, HK.out.2⟩
end Go.Proofs.YtnjpaanjgbfbaaaGreat
/- The reference's walker: piece. -/
namespace Go.Proofs.YtnjpaanjgbfbaaaGreat
set_option linter.unusedVariables false
set_option linter.unusedSimpArgs false
open Go.RowKit

theorem page_no (C : RC) (S : Nat → Prop) (st : P.St) (vS : Value) (n k : Nat) (c : UInt8) (w : World) (h : RW C S w st vS false) (hn : n < 1000000) (hk : k ≠ 0) (hc0 : c.toNat ≠ 0) (hck : c.toNat = 120 ↔ k = 4) (hp : ¬ pgOk C.np st n c) :
    Calls Tryz.prog 67 #[.pointer (some ⟨C.q, 0, none⟩), .int .i64 (n : Int), .int .u8 (c.toNat : Int)] w fun e w' => e = .returned (.slice none 0 0) ∧ RW C S w' st vS true ∧ Stp S w S w' :=
  (page_any C S st vS n k c w h hn hk hc0 hck).mono fun e w' hh => by
    rcases hh with ⟨h1, -⟩ | ⟨-, h2⟩
    · exact absurd h1 hp
    · exact h2
theorem page_yes (C : RC) (S : Nat → Prop) (st : P.St) (vS : Value) (n k : Nat) (c : UInt8) (w : World) (h : RW C S w st vS false) (hn : n < 1000000) (hk : k ≠ 0) (hc0 : c.toNat ≠ 0) (hck : c.toNat = 120 ↔ k = 4) (hp : pgOk C.np st n c) :
    Calls Tryz.prog 67 #[.pointer (some ⟨C.q, 0, none⟩), .int .i64 (n : Int), .int .u8 (c.toNat : Int)] w fun e w' => ∃ p cp, e = .returned (.slice (some p) 256 cp) ∧ 256 ≤ cp ∧ Rd w' (some p) 256 (P.pg C.img n) ∧ p.block < C.B ∧ RW C S w' (st.hit n k) vS false ∧ Stp S w S w' :=
  (page_any C S st vS n k c w h hn hk hc0 hck).mono fun e w' hh => by
    rcases hh with ⟨-, h1⟩ | ⟨h2, -⟩
    · exact h1
    · exact absurd hp h2
/-- Text pages that were met are good ones. -/
def TxOk (img : List UInt8) (st : P.St) : Prop := ∀ k, st.met k = 4 → P.txErr (P.pg img k) = 0
theorem txAt_yes {img : List UInt8} {np n : Nat} {st : P.St} (hp : pgOk np st n 120) (he : P.txErr (P.pg img n) = 0) : P.txAt img np st n = some (st.hit n 4) := by
  unfold P.txAt
  by_cases h4 : st.met n = 4
  · rw [if_pos h4, hit_same st n 4 h4]
  · rw [if_neg h4]
    rcases hp with hp | ⟨-, hp⟩
    · rw [if_pos ⟨hp, he⟩]
    · exact absurd hp h4
theorem txAt_np {img : List UInt8} {np n : Nat} {st : P.St} (hp : ¬ pgOk np st n 120) : P.txAt img np st n = none := by
  unfold P.txAt
  rw [if_neg (fun e => hp (.inr ⟨by decide, e⟩)), if_neg (fun e => hp (.inl e.1))]
theorem txAt_ne {img : List UInt8} {np n : Nat} {st : P.St} (ht : TxOk img st) (he : P.txErr (P.pg img n) ≠ 0) : P.txAt img np st n = none := by
  unfold P.txAt
  rw [if_neg (fun e => he (ht n e)), if_neg (fun e => he e.2)]
theorem txok_at {img : List UInt8} {np n : Nat} {st s : P.St} (h : P.txAt img np st n = some s) (ht : TxOk img st) : TxOk img s := by
  unfold P.txAt at h
  split at h
  · cases h; exact ht
  · split at h
    · rename_i hc
      cases h
      intro k hk
      unfold P.St.hit at hk
      simp only at hk
      by_cases e : k = n
      · subst e; exact hc.2
      · rw [if_neg e] at hk; exact ht k hk
    · cases h
theorem txok_piece {img : List UInt8} {np : Nat} {lim : Bool} {st s : P.St} {p : P.Q} (h : P.piece img np lim st p = some s) (ht : TxOk img st) : TxOk img s := by
  unfold P.piece at h
  rcases h1 : P.txAt img np st p.a.toNat with _ | s1
  · rw [h1] at h; cases h
  · rw [h1] at h
    simp only [Option.bind_some] at h
    split at h
    · cases h
      exact fun k hk => txok_at h1 ht k hk
    · cases h
theorem txok_hit {img : List UInt8} {st : P.St} {n k : Nat} (ht : TxOk img st) (hk : k ≠ 4) : TxOk img (st.hit n k) := fun i hi => by
  unfold P.St.hit at hi
  simp only at hi
  by_cases e : i = n
  · rw [if_pos e] at hi; exact absurd hi hk
  · rw [if_neg e] at hi; exact ht i hi
/-- How a part of the reference's walk ends that has no result. -/
def RPend (C : RC) (S : Nat → Prop) (vS : Value) (spec : Option P.St) (w : World) (e : Ending) (w' : World) : Prop :=
  e = .returned (.tuple #[]) ∧ ((∃ st' S', spec = some st' ∧ RW C S' w' st' vS false ∧ Stp S w S' w') ∨ (spec = none ∧ ∃ st' S', RW C S' w' st' vS true ∧ Stp S w S' w'))
set_option maxRecDepth 100000 in
set_option maxHeartbeats 1600000 in
theorem rpiece_a (C : RC) (S : Nat → Prop) (st : P.St) (vS : Value) (n b c l : Nat) (w : World) (h : RW C S w st vS false) (hm : P.Q.mayP ⟨n, b, c, l⟩ = true) (hp : ¬ pgOk C.np st n 120) :
    Calls Tryz.prog 83 #[.pointer (some ⟨C.q, 0, none⟩), .agg #[.int .i64 (n : Int), .int .i64 (b : Int), .int .i64 (c : Int), .int .i64 (l : Int)]] w (RPend C S vS (P.piece C.img C.np true st ⟨n, b, c, l⟩) w) := by
  have hmi := (P.Q.mayP_iff _).1 hm
  simp only at hmi
  have hno : P.piece C.img C.np true st ⟨n, b, c, l⟩ = none := by
    unfold P.piece
    simp only [Int.toNat_natCast]
    rw [txAt_np hp]
    rfl
  rw [hno]
  obtain ⟨w0, hw0⟩ : ∃ w0, w0 = w.alloc (.cells #[.int .i64 (n : Int), .int .i64 (b : Int), .int .i64 (c : Int), .int .i64 (l : Int)] 59) := ⟨_, rfl⟩
  have hb0 : Below w.heap.size w w0 := by rw [hw0]; exact (Below.refl _ w).alloc (Nat.le_refl _) _
  have k0 : w0.heap[w.heap.size]? = some (.cells #[.int .i64 (n : Int), .int .i64 (b : Int), .int .i64 (c : Int), .int .i64 (l : Int)] 59 (0, 0)) := by rw [hw0]; exact alloc_new _ _ _ rfl
  have g0 := cell_blk k0
  have HP := Lib.hid (page_no C S st vS n 4 120 w0 (h.below hb0) (by omega) (by omega) (by decide) (by decide) hp)
  have HB0 := Lib.hid hb0
  clear h hb0 k0 hm hno hp hmi
  go_enter Tryz.func83, Tryz.ntmps83
  go_wp2_with fail
  rw [← hw0]
  clear hw0
  refine HP.out.mono ?_
  rintro e w1 ⟨rfl, hk1, hs1⟩
  obtain ⟨vP, vT, hq⟩ := hk1.cells
  have g := cell_blk hq
  unfold rwC at g
  have HF := Lib.hid (show RPend C S vS none w (.returned (.tuple #[])) w1 from ⟨rfl, .inr ⟨rfl, st, S, hk1, (Stp.below HB0.out).trans hs1⟩⟩)
  clear hk1 hs1 hq
  go_wp2
  refine bodyPost_ret (results_none rfl _ _ _) rfl ?_
  exact HF.out
set_option maxRecDepth 100000 in
set_option maxHeartbeats 1600000 in
theorem rpiece_b (C : RC) (S : Nat → Prop) (st : P.St) (vS : Value) (n b c l : Nat) (w : World) (h : RW C S w st vS false) (hm : P.Q.mayP ⟨n, b, c, l⟩ = true) (hp : pgOk C.np st n 120) (ht : TxOk C.img st)
    (hx : P.txErr (P.pg C.img n) ≠ 0 ∨ (P.txErr (P.pg C.img n) = 0 ∧ (P.txL (P.pg C.img n)).length < b + c)) :
    Calls Tryz.prog 83 #[.pointer (some ⟨C.q, 0, none⟩), .agg #[.int .i64 (n : Int), .int .i64 (b : Int), .int .i64 (c : Int), .int .i64 (l : Int)]] w (RPend C S vS (P.piece C.img C.np true st ⟨n, b, c, l⟩) w) := by
  have hmi := (P.Q.mayP_iff _).1 hm
  simp only at hmi
  have hno : P.piece C.img C.np true st ⟨n, b, c, l⟩ = none := by
    unfold P.piece
    simp only [Int.toNat_natCast]
    rcases hx with hx | ⟨hx, hy⟩
    · rw [txAt_ne ht hx]
      rfl
    · rw [txAt_yes hp hx]
      simp only [Option.bind_some]
      rw [if_neg (fun e => by have := e.1; omega)]
  rw [hno]
  obtain ⟨w0, hw0⟩ : ∃ w0, w0 = w.alloc (.cells #[.int .i64 (n : Int), .int .i64 (b : Int), .int .i64 (c : Int), .int .i64 (l : Int)] 59) := ⟨_, rfl⟩
  have hb0 : Below w.heap.size w w0 := by rw [hw0]; exact (Below.refl _ w).alloc (Nat.le_refl _) _
  have k0 : w0.heap[w.heap.size]? = some (.cells #[.int .i64 (n : Int), .int .i64 (b : Int), .int .i64 (c : Int), .int .i64 (l : Int)] 59 (0, 0)) := by rw [hw0]; exact alloc_new _ _ _ rfl
  have g0 := cell_blk k0
  have hnS : ∀ j, w.heap.size ≤ j → ¬ S j := fun j hj hs => by have := h.sets _ hs; omega
  have HP := Lib.hid (page_yes C S st vS n 4 120 w0 (h.below hb0) (by omega) (by omega) (by decide) (by decide) hp)
  have HB0 := Lib.hid hb0
  have K0 := Lib.hid k0
  clear h hb0 k0 hm hno hp
  go_enter Tryz.func83, Tryz.ntmps83
  go_wp2_with fail
  rw [← hw0]
  clear hw0
  refine HP.out.mono ?_
  rintro e w1 ⟨p, cp, rfl, hcp, hr1, hpB, hk1, hs1⟩
  obtain ⟨vP, vT, hq⟩ := hk1.cells
  have g := cell_blk hq
  unfold rwC at g
  have HR1 := Lib.hid hr1
  have HK1 := Lib.hid hk1
  have HS1 := Lib.hid ((Stp.below HB0.out).trans hs1)
  have kp1 := Wk.apart hs1 K0.out (hnS _ (Nat.le_refl _))
  have HT := Lib.hid (rtext_fun (some p) 256 cp _ w1 hr1 hcp)
  have KP1 := Lib.hid kp1
  clear hk1 hs1 hq hr1 kp1 g0
  go_wp2_with fail
  refine HT.out.mono ?_
  rintro e w2 ⟨a2, m2, c2, rfl, hr2, hc2, ha2, hb2⟩
  obtain ⟨vP2, vT2, hq2⟩ := (HK1.out.below hb2).cells
  have g2 := cell_blk hq2
  have f2 := free_blk hq2
  unfold rwC at g2
  have g3 := cell_blk ((hb2.block _ (lt_of_block KP1.out)).trans KP1.out)
  have HFL := Lib.hid ((HK1.out.below hb2).flag true)
  have HF := Lib.hid (show RPend C S vS none w (.returned (.tuple #[])) (w2.setCell ⟨C.q, 16, none⟩ (.bool true)) from ⟨rfl, .inr ⟨rfl, _, S, HFL.out.1, (HS1.out.trans (Stp.below hb2)).trans HFL.out.2⟩⟩)
  have hl2 := hr2.1
  clear hr2 ha2 hb2 hq2 g
  generalize P.txErr (P.pg C.img n) = E at hx ⊢
  rcases hx with hx | ⟨hx, hy⟩
  · have e1 : (E != 0) = true := by simpa using hx
    clear hx hl2
    go_wp2
    refine bodyPost_ret (results_none rfl _ _ _) rfl ?_
    exact HF.out
  · subst hx
    have e2 : decide ((m2 : Int) < (b : Int) + (c : Int)) = true := decide_eq_true (by omega)
    have e3 : (m2 : Int) < (b : Int) + (c : Int) := by omega
    clear hl2 hy
    go_wp2
    refine bodyPost_ret (results_none rfl _ _ _) rfl ?_
    exact HF.out
end Go.Proofs.YtnjpaanjgbfbaaaGreat
/- The reference's walker: piece, to its end. -/
namespace Go.Proofs.YtnjpaanjgbfbaaaGreat
set_option linter.unusedVariables false
set_option linter.unusedSimpArgs false
open Go.RowKit

set_option maxRecDepth 100000 in
set_option maxHeartbeats 6400000 in
theorem rpiece_d (C : RC) (S : Nat → Prop) (st : P.St) (vS : Value) (n b c l : Nat) (w : World) (h : RW C S w st vS false) (hm : P.Q.mayP ⟨n, b, c, l⟩ = true) (hps : st.ps.length ≤ 100000) (hp : pgOk C.np st n 120) (ht : TxOk C.img st)
    (hx : P.txErr (P.pg C.img n) = 0) (hbc : b + c ≤ (P.txL (P.pg C.img n)).length) :
    Calls Tryz.prog 83 #[.pointer (some ⟨C.q, 0, none⟩), .agg #[.int .i64 (n : Int), .int .i64 (b : Int), .int .i64 (c : Int), .int .i64 (l : Int)]] w (RPend C S vS (P.piece C.img C.np true st ⟨n, b, c, l⟩) w) := by
  have hmi := (P.Q.mayP_iff _).1 hm
  simp only at hmi
  obtain ⟨L, hL⟩ : ∃ L, L = P.slice (P.txL (P.pg C.img n)) b c := ⟨_, rfl⟩
  have hsp : P.piece C.img C.np true st ⟨n, b, c, l⟩ = if List.count 10 L = l ∧ (st.tx ++ L).length ≤ 1048576 then some ⟨(st.hit n 4).met, st.ps ++ [⟨n, b, c, l⟩], st.tx ++ L⟩ else none := by
    unfold P.piece
    simp only [Int.toNat_natCast]
    rw [txAt_yes hp hx]
    simp only [Option.bind_some]
    have e1 : P.cutP C.img ⟨n, b, c, l⟩ = L := by rw [hL]; unfold P.cutP; simp only [Int.toNat_natCast]
    rw [e1]
    by_cases hc : List.count 10 L = l ∧ (st.tx ++ L).length ≤ 1048576
    · rw [if_pos hc, if_pos ⟨hbc, by unfold P.nls; rw [hc.1], fun _ => hc.2⟩]
      rfl
    · rw [if_neg hc, if_neg (fun e => hc ⟨by have := e.2.1; unfold P.nls at this; omega, e.2.2 trivial⟩)]
  obtain ⟨SP, hSP⟩ : ∃ SP, SP = P.piece C.img C.np true st ⟨n, b, c, l⟩ := ⟨_, rfl⟩
  rw [← hSP] at hsp ⊢
  have HSP := Lib.hid hsp
  clear hSP
  obtain ⟨w0, hw0⟩ : ∃ w0, w0 = w.alloc (.cells #[.int .i64 (n : Int), .int .i64 (b : Int), .int .i64 (c : Int), .int .i64 (l : Int)] 59) := ⟨_, rfl⟩
  have hb0 : Below w.heap.size w w0 := by rw [hw0]; exact (Below.refl _ w).alloc (Nat.le_refl _) _
  have k0 : w0.heap[w.heap.size]? = some (.cells #[.int .i64 (n : Int), .int .i64 (b : Int), .int .i64 (c : Int), .int .i64 (l : Int)] 59 (0, 0)) := by rw [hw0]; exact alloc_new _ _ _ rfl
  have g0 := cell_blk k0
  have hnS : ∀ j, w.heap.size ≤ j → ¬ S j := fun j hj hs => by have := h.sets _ hs; omega
  have HP := Lib.hid (page_yes C S st vS n 4 120 w0 (h.below hb0) (by omega) (by omega) (by decide) (by decide) hp)
  have HB0 := Lib.hid hb0
  have K0 := Lib.hid k0
  have HTX := Lib.hid h.2.2.2.2.1
  clear h hb0 k0 hm hp hsp
  go_enter Tryz.func83, Tryz.ntmps83
  go_wp2_with fail
  rw [← hw0]
  clear hw0
  refine HP.out.mono ?_
  rintro e w1 ⟨p, cp, rfl, hcp, hr1, hpB, hk1, hs1⟩
  obtain ⟨vP, vT, hq⟩ := hk1.cells
  have g := cell_blk hq
  unfold rwC at g
  have HR1 := Lib.hid hr1
  have HK1 := Lib.hid hk1
  have HS1 := Lib.hid ((Stp.below HB0.out).trans hs1)
  have kp1 := Wk.apart hs1 K0.out (hnS _ (Nat.le_refl _))
  have HT := Lib.hid (rtext_fun (some p) 256 cp _ w1 hr1 hcp)
  have KP1 := Lib.hid kp1
  have LW1 := Lib.hid hk1.ge
  clear hk1 hs1 hq hr1 kp1 g0
  go_wp2_with fail
  refine HT.out.mono ?_
  rintro e w2 ⟨a2, m2, c2, rfl, hr2, hc2, ha2, hb2⟩
  rw [hx]
  have HK2 := Lib.hid (HK1.out.below hb2)
  have HS2 := Lib.hid (HS1.out.trans (Stp.below hb2))
  have KP2 := Lib.hid ((hb2.block _ (lt_of_block KP1.out)).trans KP1.out)
  obtain ⟨vP2, vT2, hq2⟩ := HK2.out.cells
  have g2 := cell_blk hq2
  have f2 := free_blk hq2
  unfold rwC at g2
  have g3 := cell_blk KP2.out
  have hl2 := hr2.1
  obtain ⟨pa, rfl, -⟩ := hr2.at 0 (by omega)
  have hcut := hr2.cut b c (by omega)
  rw [← hL] at hcut
  have hLl : L.length = c := hcut.1
  have HLL := Lib.hid hLl
  have HR2 := Lib.hid hr2
  have HL := Lib.hid hL
  have HA := Lib.hid (show ∀ p, some pa = some p → ¬ S p.block ∧ p.block < w2.heap.size from fun p e => ⟨fun hs => by have := ha2 p e; have := HK1.out.sets _ hs; omega, hr2.lt (by omega) p e⟩)
  have HCUT := Lib.hid hcut
  have e2 : decide ((m2 : Int) < (b : Int) + (c : Int)) = false := decide_eq_false (by omega)
  have e3 : ¬ (m2 : Int) < (b : Int) + (c : Int) := by omega
  have e4 : (b : Int) + (c : Int) ≤ 1000 := by omega
  have e5 : (0 : Int) ≤ (b : Int) := by omega
  have e6 : (0 : Int) ≤ (c : Int) := by omega
  have e7 : (m2 : Int) ≤ (c2 : Int) := by omega
  have e8 : (b : Int) + (c : Int) ≤ (m2 : Int) := by omega
  have e9 : b + c ≤ m2 := by omega
  have HC2 := Lib.hid hc2
  clear hl2 hr2 ha2 hb2 hq2 g hx hbc hL hcut hLl hc2
  go_wp2
  go_loop [7, 8] (fun nn i => ∃ k : Nat, k ≤ c ∧ i = .int .i64 ((b + k : Nat) : Int) ∧ nn = .int .i64 ((List.count (10 : UInt8) (L.take k) : Nat) : Int)) (fun _ i => b + c - (intOf i).toNat)
  case atStart => exact ⟨0, by omega, rfl, by simp⟩
  case round =>
    obtain ⟨k, hk, rfl, rfl⟩ := hrel
    by_cases hlt : k < c
    · have hkl : k < L.length := by rw [HLL.out]; exact hlt
      obtain ⟨pb, hpb, hcell⟩ := HCUT.out.at k hkl
      cases hpb
      rw [Addr.add_add] at hcell
      have hts : L.take (k + 1) = L.take k ++ [L[k]] := by rw [List.take_succ_eq_append_getElem hkl]
      have hle : List.count (10 : UInt8) (L.take k) ≤ k := by
        have h1 := List.count_le_length (a := (10 : UInt8)) (l := L.take k)
        have h2 := List.length_take_le k L
        omega
      unfold bv at hcell
      obtain ⟨x, hx⟩ : ∃ x, x = L[k] := ⟨_, rfl⟩
      rw [← hx] at hcell hts
      obtain ⟨bk, hbk⟩ : ∃ bk, bk = b + k := ⟨_, rfl⟩
      rw [← hbk] at hcell ⊢
      have j1 : (bk : Int) < (b : Int) + (c : Int) := by omega
      have j2 : (0 : Int) ≤ (bk : Int) := by omega
      have j3 : (bk : Int) < (m2 : Int) := by omega
      have HBK := Lib.hid hbk
      clear hbk
      by_cases h10 : x = 10
      · subst h10
        have HN := Lib.hid (show List.count (10 : UInt8) (L.take (k + 1)) = List.count (10 : UInt8) (L.take k) + 1 by rw [hts]; simp)
        have hcell' : w2.cell? (pa.add bk) = some (.int .u8 10) := hcell
        generalize List.count (10 : UInt8) (L.take k) = N at *
        clear hx hts hcell
        go_wp2
        go_round
        case rel => exact ⟨k + 1, by omega, by have := HBK.out; congr 1; omega, by rw [HN.out]; go_num⟩
        case measure => have := HBK.out; simp [intOf]; omega
      · have HN := Lib.hid (show List.count (10 : UInt8) (L.take (k + 1)) = List.count (10 : UInt8) (L.take k) by rw [hts]; simp [h10])
        have hb : ((x.toNat : Int) == 10) = false := by
          have : x.toNat ≠ 10 := fun e => h10 (UInt8.toNat_inj.1 e)
          simp
          omega
        generalize List.count (10 : UInt8) (L.take k) = N at *
        clear hx hts h10
        go_wp2
        go_round
        case rel => exact ⟨k + 1, by omega, by have := HBK.out; congr 1; omega, by rw [HN.out]⟩
        case measure => have := HBK.out; simp [intOf]; omega
    · obtain rfl : c = k := by omega
      obtain ⟨bk, hbk⟩ : ∃ bk, bk = b + c := ⟨_, rfl⟩
      have j1 : ¬ (bk : Int) < (b : Int) + (c : Int) := by omega
      have j2 : (bk : Int) = (b : Int) + (c : Int) := by omega
      have HTK := Lib.hid (show L.take c = L from List.take_of_length_le (by rw [HLL.out]; exact Nat.le_refl _))
      rw [HTK.out, ← hbk]
      clear hbk j2
      obtain ⟨N, hN⟩ : ∃ N, N = List.count 10 L := ⟨_, rfl⟩
      rw [← hN]
      obtain ⟨bd, hbd⟩ : ∃ bd : Bool, bd = decide (¬ N = l) := ⟨_, rfl⟩
      have HBD := Lib.hid hbd
      have HNN := Lib.hid hN
      clear hbd hN
      have HFL := Lib.hid (HK2.out.flag true)
      have hq9 : C.q < w2.heap.size := by obtain ⟨_, _, h⟩ := HK2.out.cells; exact lt_of_block h
      have hqw : ¬ w.heap.size = C.q := fun e => hnS _ (Nat.le_refl _) (e ▸ HK2.out.2.2.1.1)
      go_upto_if 58 with (fail)
      go_cut [7] from 8 (fun s7 wx => RW C S wx (st.hit n 4) vS bd ∧ Stp S w S wx ∧ wx.heap[w.heap.size]? = some (.cells #[.int .i64 (n : Int), .int .i64 (b : Int), .int .i64 (c : Int), .int .i64 (l : Int)] 59 (0, 0)) ∧ Rd wx (some pa) m2 (P.txL (P.pg C.img n)) ∧ w2.heap.size ≤ wx.heap.size)
      case first =>
        by_cases hNl : N = l
        · obtain rfl : bd = false := by rw [HBD.out]; simp [hNl]
          have q1 : ((N : Int) != (l : Int)) = false := by simp [hNl]
          clear hNl
          go_wp2
          go_meet
          case rel => exact ⟨HK2.out, HS2.out, KP2.out, HR2.out, Nat.le_refl _⟩
        · obtain rfl : bd = true := by rw [HBD.out]; simp [hNl]
          have q1 : ((N : Int) != (l : Int)) = true := by simp; omega
          have KPF := Lib.hid ((setCell_chg w2 C.q 16 (.bool true)).block _ (lt_of_block KP2.out) (by omega) |>.trans KP2.out)
          have RPF := Lib.hid (HR2.out.chg (setCell_chg w2 C.q 16 (.bool true)) (fun p e hs => (HA.out p e).1 (by rw [hs]; exact HK2.out.2.2.1.1)))
          have ZPF := Lib.hid (setCell_chg w2 C.q 16 (.bool true)).size
          clear hNl
          go_wp2
          go_meet
          case rel => exact ⟨HFL.out.1, HS2.out.trans HFL.out.2, KPF.out, RPF.out, ZPF.out⟩
      case rest =>
        obtain ⟨hk, hs, kp, hr, hz⟩ := hcut
        have HK := Lib.hid hk
        have HST := Lib.hid hs
        have KP := Lib.hid kp
        have HRT := Lib.hid hr
        have hBge := hk.ge
        clear hk hs kp hr g2 f2 g3
        go_upto_region 14 with (fail)
        go_cut [7] from 8 (fun s7 wx => ∃ S5, RW C S5 wx ⟨(st.hit n 4).met, st.ps ++ [(⟨(n : Int), (b : Int), (c : Int), (l : Int)⟩ : P.Q)], st.tx⟩ vS bd ∧ Stp S w S5 wx ∧ wx.heap[w.heap.size]? = some (.cells #[.int .i64 (n : Int), .int .i64 (b : Int), .int .i64 (c : Int), .int .i64 (l : Int)] 59 (0, 0)) ∧ Rd wx (some (pa.add b)) c L)
        case first =>
          obtain ⟨vP1, vT1, kc, kP, kown, kadd⟩ := HK.out.addP
          have gq := cell_blk kc
          unfold rwC at gq
          have gp := cell_blk KP.out
          have n11 : ∀ o : Obj, (wc.alloc o).cell? ⟨C.q, 11, none⟩ = some vP1 := fun o => cell_blk (alloc_old kc o) 11
          have KPP := Lib.hid kP
          have HADD := Lib.hid kadd
          have hps2 : ((st.hit n 4).ps.length + 1) * 32 ≤ 140737488355328 := by show (st.ps.length + 1) * 32 ≤ _; omega
          have hps3 : (st.hit n 4).ps.length + 1 ≤ 140737488355328 := by show st.ps.length + 1 ≤ _; omega
          have HR1 := Lib.hid (fun o : World => RQ_one o 59 ⟨n, b, c, l⟩)
          have HBW := Lib.hid (fun o : Obj => (below_of_drew ((Below.refl _ wc.drew).alloc (Nat.le_refl _) o) : Below wc.heap.size wc (wc.drew.alloc o)))
          have HB := Lib.hid (fun o : Obj => (show C.B ≤ (wc.drew.alloc o).heap.size by simp; omega))
          clear kc kP kown kadd
          go_region_law ((refine step_appV piecesT _ rfl _ _ rfl C.B vP1 _ _ rfl (by exact KPP.out.alloc _) (some ⟨wc.heap.size, 0, none⟩) 1 1 (qC ⟨n, b, c, l⟩) rfl (by exact HR1.out _) (qC_one _) hps2 hps3 (by exact HB.out _) ?_; intro v5 w5 ho5 hg5 hat5; obtain ⟨q5, -, S5, k5, st5⟩ := HADD.out _ _ _ ⟨n, b, c, l⟩ (HBW.out _) hg5 hat5 ho5; have g5 := cell_blk q5; unfold rwC at g5; have f5 := free_blk q5; obtain ⟨a5, e5, hv5, -⟩ := ho5.form; subst hv5; have K5 := Lib.hid k5; have ST5 := Lib.hid st5; clear k5 st5 ho5 hg5 hat5 q5))
          all_goals
            clear gq g5 f5 n11 gp
            go_wp2_with fail
            go_meet
            case rel =>
              have hcut2 := (HRT.out.stp ST5.out (fun p e => by cases e; exact (HA.out pa rfl).1)).cut b c (by omega)
              rw [← HL.out] at hcut2
              exact ⟨S5, K5.out, HST.out.trans ST5.out, Wk.apart ST5.out KP.out (hnS _ (Nat.le_refl _)), hcut2⟩
        case rest =>
          obtain ⟨S5, hk5, hst5, kpa, hcut5⟩ := hcut
          obtain ⟨T, hT⟩ : ∃ T, T = (st.tx ++ L).length := ⟨_, rfl⟩
          have HT5 := Lib.hid hT
          clear hT
          have K5 := Lib.hid hk5
          have ST5 := Lib.hid hst5
          have KPA := Lib.hid kpa
          have HCUT5 := Lib.hid hcut5
          have hB5 := hk5.ge
          have d1 : ¬ c2 = b := by have := HC2.out; omega
          have d9 : (m2 : Int) ≤ (c2 : Int) := by have := HC2.out; omega
          clear hk5 hst5 kpa hcut5
          go_upto_region 15 with (fail)
          go_cut [7] from 8 (fun s7 wx => ∃ S6 a6 e6, RW C S6 wx ⟨(st.hit n 4).met, st.ps ++ [(⟨(n : Int), (b : Int), (c : Int), (l : Int)⟩ : P.Q)], st.tx ++ L⟩ vS bd ∧ Stp S w S6 wx ∧ wx.cell? ⟨C.q, 12, none⟩ = some (.slice a6 T e6))
          case first =>
            obtain ⟨vP2, vT2, kc2, kT2, kown2, kadd2⟩ := K5.out.addT
            have gq := cell_blk kc2
            unfold rwC at gq
            have gp := cell_blk KPA.out
            have KT2 := Lib.hid kT2
            have HADD2 := Lib.hid kadd2
            have HTL := Lib.hid (show st.tx.length + c ≤ 140737488355328 by have := HTX.out; omega)
            have HTB := Lib.hid (show (st.tx ++ L).length ≤ 248 * (st.ps ++ [(⟨n, b, c, l⟩ : P.Q)]).length by have := HTX.out; have := HLL.out; simp; omega)
            have HDR := Lib.hid (show Below wc.heap.size wc wc.drew from ⟨rfl, rfl, rfl, Nat.le_refl _, fun _ _ => rfl⟩)
            obtain ⟨M, hM⟩ : ∃ M, M = b + c := ⟨_, rfl⟩
            have d2 : M - b = c := by omega
            have d3 : (b : Int) + (c : Int) = (M : Int) := by omega
            have d4 : (0 : Int) ≤ (M : Int) := by omega
            have d5 : (M : Int) ≤ (c2 : Int) := by have := HC2.out; omega
            have d6 : b ≤ M := by omega
            have d7 : (b : Int) ≤ (M : Int) := by omega
            have d8 : IntKind.i64.wrap (M : Int) = (M : Int) := IntWalk.i64_in _ (by omega)
            clear e2 e3 e4 e8 j1 hM kc2 kT2 kown2 kadd2
            go_region_law ((refine step_app _ rfl _ _ rfl C.B vT2 st.tx rfl (by exact KT2.out) _ _ _ L rfl (by exact HCUT5.out.drew) HTL.out (by exact hB5) ?_; intro v6 wb ho6 hg6 hat6; obtain ⟨q6, q7, S6, k6, st6⟩ := HADD2.out _ _ _ L HDR.out hg6 hat6 ho6 HTB.out; have g6 := cell_blk q6; unfold rwC at g6; have f6 := free_blk q6; obtain ⟨a6, e6, hv6, -⟩ := ho6.form; rw [← HT5.out] at hv6; subst hv6; have K6 := Lib.hid k6; have ST6 := Lib.hid st6; have Q7 := Lib.hid q7; clear k6 st6 q6 q7 ho6 hg6 hat6))
            all_goals
              clear gq gp g6 f6
              go_wp2_with fail
              go_meet
              case rel => exact ⟨S6, a6, e6, K6.out, ST5.out.trans ST6.out, cell_blk Q7.out 12⟩
          case rest =>
            obtain ⟨S6, a6, e6, hk6, hst6, hc6⟩ := hcut
            obtain ⟨vP9, vT9, hq9⟩ := hk6.cells
            have f9 := free_blk hq9
            have g9 := cell_blk hq9 16
            have K6 := Lib.hid hk6
            have HS6 := Lib.hid hst6
            have FL6 := Lib.hid (hk6.flag true)
            have hT6 : T ≤ 2000000000 := by have h := hk6.2.2.2.2.1; have := HT5.out; simp only [List.length_append, List.length_singleton] at h this; omega
            by_cases hle : T ≤ 1048576
            · have q5 : decide ((1048576 : Int) < (T : Int)) = false := decide_eq_false (by omega)
              have q6 : ¬ (1048576 : Int) < (T : Int) := by omega
              have HFIN := Lib.hid (show RPend C S vS SP w (.returned (.tuple #[])) wc from ⟨rfl, by
                by_cases hNl : N = l
                · have e : bd = false := by rw [HBD.out]; simp [hNl]
                  refine .inl ⟨_, S6, ?_, e ▸ K6.out, HS6.out⟩
                  rw [HSP.out, if_pos ⟨by rw [← HNN.out]; exact hNl, by rw [← HT5.out]; exact hle⟩]
                · have e : bd = true := by rw [HBD.out]; simp [hNl]
                  refine .inr ⟨?_, _, S6, e ▸ K6.out, HS6.out⟩
                  rw [HSP.out, if_neg (fun h => hNl (by rw [HNN.out]; exact h.1))]⟩)
              clear hk6 hst6 hq9 hle g9 f9
              go_wp2
              go_end0
              exact HFIN.out
            · have q5 : decide ((1048576 : Int) < (T : Int)) = true := decide_eq_true (by omega)
              have q6 : (1048576 : Int) < (T : Int) := by omega
              have HFIN := Lib.hid (show RPend C S vS SP w (.returned (.tuple #[])) (wc.setCell ⟨C.q, 16, none⟩ (.bool true)) from ⟨rfl, .inr ⟨by
                rw [HSP.out, if_neg (fun h => hle (by rw [HT5.out]; exact h.2))], _, S6, FL6.out.1, HS6.out.trans FL6.out.2⟩⟩)
              have g9' : wc.cell? ⟨C.q, 16, none⟩ = some (.bool bd) := g9
              clear hk6 hst6 hq9 hle g9
              go_wp2
              go_end0
              exact HFIN.out
/-- Piece, whatever it finds. -/
theorem rpiece_any (C : RC) (S : Nat → Prop) (st : P.St) (vS : Value) (n b c l : Nat) (w : World) (h : RW C S w st vS false) (hm : P.Q.mayP ⟨n, b, c, l⟩ = true) (hps : st.ps.length ≤ 100000) (ht : TxOk C.img st) :
    Calls Tryz.prog 83 #[.pointer (some ⟨C.q, 0, none⟩), .agg #[.int .i64 (n : Int), .int .i64 (b : Int), .int .i64 (c : Int), .int .i64 (l : Int)]] w (RPend C S vS (P.piece C.img C.np true st ⟨n, b, c, l⟩) w) := by
  by_cases hp : pgOk C.np st n 120
  · by_cases hx : P.txErr (P.pg C.img n) = 0
    · by_cases hbc : b + c ≤ (P.txL (P.pg C.img n)).length
      · exact rpiece_d C S st vS n b c l w h hm hps hp ht hx hbc
      · exact rpiece_b C S st vS n b c l w h hm hp ht (.inr ⟨hx, by omega⟩)
    · exact rpiece_b C S st vS n b c l w h hm hp ht (.inl hx)
  · exact rpiece_a C S st vS n b c l w h hm hp
end Go.Proofs.YtnjpaanjgbfbaaaGreat
