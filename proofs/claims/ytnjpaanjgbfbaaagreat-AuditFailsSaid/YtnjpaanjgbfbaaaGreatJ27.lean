/- The walker in memory; must, right. -/
import Derived.Test.YtnjpaanjgbfbaaaGreatJ10
import Derived.Test.YtnjpaanjgbfbaaaGreatJ12
import Derived.Test.YtnjpaanjgbfbaaaGreatJ13
import Derived.Test.YtnjpaanjgbfbaaaGreatJ09
import Derived.Test.YtnjpaanjgbfbaaaGreatJ26
namespace Go.Proofs.YtnjpaanjgbfbaaaGreat
set_option linter.unusedVariables false
set_option linter.unusedSimpArgs false
open Go.RowKit

/-- A panic with an error of the program's own. -/
abbrev pan (k : Int) : Ending := .panicked [{ v := .iface 29 (.int .i64 k), recovered := false }]
theorem must_t (w : World) : Calls Tryz.prog 59 #[.bool true] w fun e w' => e = .returned (.tuple #[]) ∧ w = w' := by
  go_enter Tryz.func59, Tryz.ntmps59
  go_wp2
  go_end0
  exact And.intro rfl rfl
theorem must_f (w : World) : Calls Tryz.prog 59 #[.bool false] w fun e w' => e = pan 8 ∧ w = w' := by
  go_enter Tryz.func59, Tryz.ntmps59
  go_wp2
  exact ⟨rfl, rfl, rfl⟩
theorem right_t (w : World) : Calls Tryz.prog 80 #[.int .i64 0] w fun e w' => e = .returned (.tuple #[]) ∧ w = w' := by
  go_enter Tryz.func80, Tryz.ntmps80
  go_wp2_with (go_at_call 59; refine (must_t _).mono ?_; rintro e w1 ⟨rfl, rfl⟩)
  go_end0
  exact And.intro rfl rfl
theorem right_f (x : Int) (hx : ¬ x = 0) (w : World) : Calls Tryz.prog 80 #[.int .i64 x] w fun e w' => e = pan 8 ∧ w = w' := by
  have h : (x == 0) = false := by simpa using hx
  go_enter Tryz.func80, Tryz.ntmps80
  go_wp2_with (go_at_call 59; refine (must_f _).mono ?_; rintro e w1 ⟨rfl, rfl⟩)
  exact ⟨rfl, rfl, rfl⟩

theorem intT : MpT 108 3 3 .i64 (.int .i64 0) := ⟨Tryz.underlying3, Tryz.underlying108, fun w => Tryz.zeroValue3 w⟩
theorem textT : MpT 109 3 22 .i64 (.slice none 0 0) := ⟨Tryz.underlying3, Tryz.underlying109, fun w => Tryz.zeroValue22 w⟩
theorem OVc.chg {S : Nat → Prop} {w w' : World} {B : Nat} {t : TypeId} {s : Nat} {v : Value} {n : Nat} {l : List Value} (h : OV w B t s v n l) (hb : Chg S w w') (hS : ∀ k, v.ownBlock = some k → ¬ S k) : OV w' B t s v n l := by
  rcases h.2 with ⟨rfl, e⟩ | ⟨g, cap, cur, rfl, hbg, hg, r⟩
  · exact ⟨h.1, .inl ⟨rfl, e⟩⟩
  · exact ⟨h.1, .inr ⟨g, cap, cur, rfl, hbg, by rw [hb.block g (lt_of_block hg) (hS g rfl)]; exact hg, r⟩⟩
/-- Where a walk's memory lies, and over what it goes. -/
structure AC where
  B : Nat
  q : Nat
  d : Nat
  m : Nat
  t : Nat
  np : Nat
  img : List UInt8
  s : P.Sup
  o0 : Nat
  out0 : List UInt8
/-- The blocks that what is only read does not lie in: the walk's own, and a caller's. -/
abbrev av (L S : Nat → Prop) : Nat → Prop := fun j => S j ∨ L j
/-- More of the caller's. -/
def addL (L X : Nat → Prop) : Nat → Prop := fun j => L j ∨ X j
/-- The cells of a walker. -/
def wkC (C : AC) (vP vT vS : Value) : Array Value :=
  #[.pointer (some ⟨C.d, 0, none⟩), .int .i64 C.s.g, .int .i64 C.s.p, .int .i64 C.s.r, .int .i64 C.s.h, .int .i64 C.s.b, .int .i64 C.s.l, .int .i64 C.s.s, .int .i64 C.s.f,
    .int .i64 C.s.g, .int .i64 C.s.p, .int .i64 C.s.r, .int .i64 C.s.h, .int .i64 C.s.b, .int .i64 C.s.l, .int .i64 C.s.s, .int .i64 C.s.f,
    .int .i64 (-1), vP, vT, vS, .slice none 0 0, .map (some C.m), .map (some C.t)]
def CleanO (outs : List UInt8) (k : Nat) : Prop := ∀ i, i < k → lostO (outs.drop i) = false
def metV (st : P.St) : Int → Option Value := fun k => if 0 ≤ k ∧ st.met k.toNat ≠ 0 then some (.int .i64 (st.met k.toNat : Nat)) else none
/-- The text of a page that was read: v is what the map has. -/
def TxIs (C : AC) (L S : Nat → Prop) (w : World) (n : Nat) : Bool → Option Value → Prop
  | false, v => v = none
  | true, v => ∃ a m cp, v = some (.slice a m cp) ∧ Rd w a m (P.txL (P.pg C.img n)) ∧ (m ≤ cp ∧ 0 < m) ∧ (∀ p, a = some p → ¬ av L S p.block ∧ p.block < w.heap.size)
/-- How many texts were read. -/
def cnT (np : Nat) (tk : Nat → Bool) : Nat := P.cnt np ⟨fun k => if tk k = true then 1 else 0, [], []⟩
/-- The walker, but for its device. -/
def WkR (C : AC) (L S : Nat → Prop) (w : World) (st : P.St) (tk : Nat → Bool) (vS : Value) : Prop :=
  (∀ j, av L S j → j < w.heap.size) ∧ (S C.q ∧ S C.m ∧ S C.t ∧ C.m ≠ C.t ∧ S C.d) ∧ st.tx.length ≤ 248 * st.ps.length ∧ (∀ k, C.np ≤ k → st.met k = 0) ∧
  ∃ vP vT V nm nt, w.heap[C.q]? = some (.cells (wkC C vP vT vS) 111 (0, 0)) ∧ OV w C.B 59 4 vP st.ps.length (qCs st.ps) ∧ OB w C.B vT st.tx ∧ (∀ k, vP.ownBlock = some k → S k) ∧ (∀ k, vT.ownBlock = some k → S k) ∧
    Mp 3 .i64 w C.m nm (metV st) ∧ nm ≤ P.cnt C.np st ∧ Mp 3 .i64 w C.t nt V ∧ nt ≤ cnT C.np tk ∧ ∀ n : Nat, TxIs C L S w n (tk n) (V n)
def IsDev (w : World) (d : Nat) : Prop := ∃ c fr, w.heap[d]? = some (.cells c 86 fr)
theorem Dev.isDev {S : Nat → Prop} {w : World} {d np ops : Nat} {img outs : List UInt8} (h : Dev S w d np img ops outs) : IsDev w d := by
  obtain ⟨vl, gn, cn, vw, ao, no, co, h1, -⟩ := h
  exact ⟨_, _, h1⟩
/-- One step: which blocks are the walk's own before and behind it. -/
def Stp (S : Nat → Prop) (w : World) (S' : Nat → Prop) (w' : World) : Prop := Chg S w w' ∧ ∀ j, j < w.heap.size → S' j → S j
theorem Stp.refl (S : Nat → Prop) (w : World) : Stp S w S w := ⟨Chg.refl S w, fun _ _ h => h⟩
theorem Stp.trans {S S' S'' : Nat → Prop} {w w' w'' : World} (h : Stp S w S' w') (k : Stp S' w' S'' w'') : Stp S w S'' w'' :=
  ⟨h.1.then k.1 h.2, fun j hj hS => h.2 j hj (k.2 j (Nat.lt_of_lt_of_le hj h.1.size) hS)⟩
theorem Stp.below {S : Nat → Prop} {w w' : World} (h : Below w.heap.size w w') : Stp S w S w' := ⟨Chg.of_below h S, fun _ _ h => h⟩
theorem Stp.of {S T : Nat → Prop} {w w' : World} (h : Chg T w w') (hT : ∀ j, T j → S j) : Stp S w S w' := ⟨h.mono fun j _ ht => hT j ht, fun _ _ h => h⟩
theorem Rd.stp {S S' : Nat → Prop} {w w' : World} {a : Option Addr} {n : Nat} {l : List UInt8} (h : Rd w a n l) (hs : Stp S w S' w') (ha : ∀ p, a = some p → ¬ S p.block) : Rd w' a n l := h.chg hs.1 ha
theorem TxIs.chg {C : AC} {L S T : Nat → Prop} {w w' : World} {n : Nat} {b : Bool} {v : Option Value} (h : TxIs C L S w n b v) (hc : Chg T w w') (hT : ∀ j, T j → S j) : TxIs C L S w' n b v := by
  cases b
  · exact h
  · obtain ⟨a, m, cp, e, hr, hm, ha⟩ := h
    exact ⟨a, m, cp, e, hr.chg hc (fun p e ht => (ha p e).1 (.inl (hT _ ht))), hm, fun p e => ⟨(ha p e).1, Nat.lt_of_lt_of_le (ha p e).2 hc.size⟩⟩
/-- The device is another one: the walker is as it was. -/
theorem WkR.dev {C : AC} {L S : Nat → Prop} {w w' : World} {st : P.St} {tk : Nat → Bool} {vS : Value} (h : WkR C L S w st tk vS) (hc : Chg (fun j => j = C.d) w w') (hd : IsDev w C.d) (hS : S C.d) : WkR C L S w' st tk vS := by
  obtain ⟨h1, h2, h3, h0, vP, vT, V, nm, nt, h4, h5, h6, h7, h8, h9, h10, h11, h12, h13⟩ := h
  obtain ⟨c, fr, hd⟩ := hd
  have hq : C.q ≠ C.d := fun e => by rw [e, hd] at h4; simp at h4
  have hm : C.m ≠ C.d := fun e => by obtain ⟨es, ck, ho⟩ := h9.obj; rw [e, hd] at ho; cases ho
  have ht : C.t ≠ C.d := fun e => by obtain ⟨es, ck, ho⟩ := h11.obj; rw [e, hd] at ho; cases ho
  have hp : ∀ k, vP.ownBlock = some k → ¬ k = C.d := fun k hk e => by
    rcases h5.2 with ⟨rfl, -⟩ | ⟨g, cap, cur, rfl, -, hg, -⟩
    · simp [Value.ownBlock] at hk
    · simp [Value.ownBlock] at hk
      subst hk
      rw [e, hd] at hg
      simp at hg
  have hx : ∀ k, vT.ownBlock = some k → ¬ k = C.d := fun k hk e => by
    rcases h6.2 with ⟨rfl, -⟩ | ⟨g, cap, cur, rfl, -, hg, -⟩
    · simp [Value.ownBlock] at hk
    · simp [Value.ownBlock] at hk
      subst hk
      rw [e, hd] at hg
      simp at hg
  exact ⟨fun j hj => Nat.lt_of_lt_of_le (h1 j hj) hc.size, h2, h3, h0, vP, vT, V, nm, nt, (hc.block _ (lt_of_block h4) hq).trans h4, OVc.chg h5 hc hp, h6.chg hc hx, h7, h8, h9.chg hc hm, h10, h11.chg hc ht, h12, fun n => (h13 n).chg hc (fun j e => e ▸ hS)⟩
theorem WkR.below {C : AC} {L S : Nat → Prop} {w w' : World} {st : P.St} {tk : Nat → Bool} {vS : Value} (h : WkR C L S w st tk vS) (hb : Below w.heap.size w w') : WkR C L S w' st tk vS := by
  obtain ⟨h1, h2, h3, h0, vP, vT, V, nm, nt, h4, h5, h6, h7, h8, h9, h10, h11, h12, h13⟩ := h
  exact ⟨fun j hj => Nat.lt_of_lt_of_le (h1 j hj) hb.size, h2, h3, h0, vP, vT, V, nm, nt, (hb.block _ (lt_of_block h4)).trans h4, h5.below hb, h6.below hb, h7, h8, h9.below hb, h10, h11.below hb, h12, fun n => (h13 n).chg (Chg.of_below hb (fun _ => False)) (fun _ e => e.elim)⟩
/-- The walker and its device. -/
def Wk (C : AC) (L S : Nat → Prop) (w : World) (st : P.St) (tk : Nat → Bool) (vS : Value) : Prop :=
  Dev (av L S) w C.d C.np C.img (C.o0 + P.cnt C.np st) (C.out0.drop (P.cnt C.np st)) ∧ CleanO C.out0 (P.cnt C.np st) ∧ (C.s.p = (C.np : Int) ∧ 8 ≤ C.np ∧ C.np ≤ 4096 ∧ C.o0 ≤ 900000 ∧ C.B ≤ C.q) ∧ WkR C L S w st tk vS
theorem Wk.below {C : AC} {L S : Nat → Prop} {w w' : World} {st : P.St} {tk : Nat → Bool} {vS : Value} (h : Wk C L S w st tk vS) (hb : Below w.heap.size w w') : Wk C L S w' st tk vS := ⟨h.1.below hb, h.2.1, h.2.2.1, h.2.2.2.below hb⟩
/-- How a part of the walk ends where something is wrong, or the device fails. -/
def EndC (C : AC) (S : Nat → Prop) (w : World) (e : Ending) (w' : World) : Prop := e = pan 8 ∧ ∃ S' k, k ≤ C.np ∧ Dev S' w' C.d C.np C.img (C.o0 + k) (C.out0.drop k) ∧ CleanO C.out0 k ∧ Stp S w S' w'
def EndI (C : AC) (S : Nat → Prop) (w : World) (e : Ending) (w' : World) : Prop := e = pan 7 ∧ ∃ S' k, k < C.np ∧ Dev S' w' C.d C.np C.img (C.o0 + k + 1) (C.out0.drop (k + 1)) ∧ CleanO C.out0 k ∧ lostO (C.out0.drop k) = true ∧ Stp S w S' w'
theorem EndC.after {C : AC} {S S' : Nat → Prop} {w w1 w' : World} {e : Ending} (h : EndC C S' w1 e w') (hs : Stp S w S' w1) : EndC C S w e w' := by
  obtain ⟨h1, T, k, h2, h3, h4, h5⟩ := h
  exact ⟨h1, T, k, h2, h3, h4, hs.trans h5⟩
theorem EndI.after {C : AC} {S S' : Nat → Prop} {w w1 w' : World} {e : Ending} (h : EndI C S' w1 e w') (hs : Stp S w S' w1) : EndI C S w e w' := by
  obtain ⟨h1, T, k, h2, h3, h4, h5, h6⟩ := h
  exact ⟨h1, T, k, h2, h3, h4, h5, hs.trans h6⟩
theorem Wk.endC {C : AC} {L S : Nat → Prop} {w : World} {st : P.St} {tk : Nat → Bool} {vS : Value} (h : Wk C L S w st tk vS) : EndC C S w (pan 8) w :=
  ⟨rfl, S, _, P.cnt_le _ _, h.1.sets (fun j _ e => .inl e) h.2.2.2.2.1.2.2.2.2, h.2.1, Stp.refl _ _⟩
end Go.Proofs.YtnjpaanjgbfbaaaGreat
/- The walker: read, reach. -/
namespace Go.Proofs.YtnjpaanjgbfbaaaGreat
set_option linter.unusedVariables false
set_option linter.unusedSimpArgs false
open Go.RowKit

set_option maxRecDepth 100000 in
set_option maxHeartbeats 1600000 in
theorem read_ok (C : AC) (S : Nat → Prop) (ops : Nat) (outs : List UInt8) (vP vT vS : Value) (n : Nat) (w : World) (h : Dev S w C.d C.np C.img ops outs) (hq : w.heap[C.q]? = some (.cells (wkC C vP vT vS) 111 (0, 0))) (hp : C.s.p = (C.np : Int)) (hl : lostO outs = false) (hop : ops < 1000000) (h2 : 2 ≤ n) (hn : n < C.np) :
    Calls Tryz.prog 94 #[.pointer (some ⟨C.q, 0, none⟩), .int .i64 (n : Int)] w fun e w' => ∃ v, e = .returned v ∧ OB w' w.heap.size v (P.pg C.img n) ∧ Dev S w' C.d C.np C.img (ops + 1) outs.tail ∧ Chg (fun k => k = C.d) w w' := by
  have HR := Lib.hid (dread_ok S C.d C.np ops C.img outs n w h hl hop hn)
  have g := cell_blk hq
  have i1 : (2 : Int) ≤ (n : Int) := by omega
  have i2 : (n : Int) < C.s.p := by omega
  unfold wkC at g
  clear h hq hl hp
  go_enter Tryz.func94, Tryz.ntmps94
  go_wp2_with (go_at_call 59; refine (must_t _).mono ?_; rintro e w1 ⟨rfl, rfl⟩)
  refine HR.out.mono ?_
  rintro e w1 ⟨v, rfl, ho, hd, hc⟩
  have HO := Lib.hid (show OB w1 w.heap.size v (P.pg C.img n) ∧ Dev S w1 C.d C.np C.img (ops + 1) outs.tail ∧ Chg (fun k => k = C.d) w w1 from ⟨ho, hd, hc⟩)
  clear ho hd hc g
  go_wp2_with (go_at_call 80; refine (right_t _).mono ?_; rintro e w2 ⟨rfl, rfl⟩)
  go_ret
  exact ⟨v, rfl, HO.out⟩
set_option maxRecDepth 100000 in
set_option maxHeartbeats 1600000 in
theorem read_io (C : AC) (S : Nat → Prop) (ops : Nat) (outs : List UInt8) (vP vT vS : Value) (n : Nat) (w : World) (h : Dev S w C.d C.np C.img ops outs) (hq : w.heap[C.q]? = some (.cells (wkC C vP vT vS) 111 (0, 0))) (hp : C.s.p = (C.np : Int)) (hl : lostO outs = true) (hop : ops < 1000000) (h2 : 2 ≤ n) (hn : n < C.np) :
    Calls Tryz.prog 94 #[.pointer (some ⟨C.q, 0, none⟩), .int .i64 (n : Int)] w fun e w' => e = pan 7 ∧ Dev S w' C.d C.np C.img (ops + 1) outs.tail ∧ Chg (fun k => k = C.d) w w' := by
  have HR := Lib.hid (dread_io S C.d C.np ops C.img outs n w h hl hop hn)
  have g := cell_blk hq
  have i1 : (2 : Int) ≤ (n : Int) := by omega
  have i2 : (n : Int) < C.s.p := by omega
  unfold wkC at g
  clear h hq hl hp
  go_enter Tryz.func94, Tryz.ntmps94
  go_wp2_with (go_at_call 59; refine (must_t _).mono ?_; rintro e w1 ⟨rfl, rfl⟩)
  refine HR.out.mono ?_
  rintro e w1 ⟨rfl, hd, hc⟩
  have HO := Lib.hid (show Dev S w1 C.d C.np C.img (ops + 1) outs.tail ∧ Chg (fun k => k = C.d) w w1 from ⟨hd, hc⟩)
  clear hd hc g
  go_wp2
  exact ⟨rfl, rfl, HO.out⟩
set_option maxRecDepth 100000 in
set_option maxHeartbeats 1600000 in
theorem read_no (C : AC) (vP vT vS : Value) (n : Int) (w : World) (hq : w.heap[C.q]? = some (.cells (wkC C vP vT vS) 111 (0, 0))) (hp : C.s.p = (C.np : Int)) (hn : ¬ (2 ≤ n ∧ n < (C.np : Int))) :
    Calls Tryz.prog 94 #[.pointer (some ⟨C.q, 0, none⟩), .int .i64 n] w fun e w' => e = pan 8 ∧ w = w' := by
  have g := cell_blk hq
  unfold wkC at g
  by_cases i1 : (2 : Int) ≤ n
  · have i2 : ¬ (n < C.s.p) := by omega
    clear hq hp hn
    go_enter Tryz.func94, Tryz.ntmps94
    go_wp2_with (go_at_call 59; refine (must_f _).mono ?_; rintro e w1 ⟨rfl, rfl⟩)
    exact ⟨rfl, rfl, rfl⟩
  · clear hq hp hn
    go_enter Tryz.func94, Tryz.ntmps94
    go_wp2_with (go_at_call 59; refine (must_f _).mono ?_; rintro e w1 ⟨rfl, rfl⟩)
    exact ⟨rfl, rfl, rfl⟩
end Go.Proofs.YtnjpaanjgbfbaaaGreat
/- The walker: reach. -/
namespace Go.Proofs.YtnjpaanjgbfbaaaGreat
set_option linter.unusedVariables false
set_option linter.unusedSimpArgs false
open Go.RowKit

theorem metV_hit (st : P.St) (n k : Nat) (hk : k ≠ 0) (x : Int) : mupd (metV st) (n : Int) (some (.int .i64 (k : Int))) x = metV (st.hit n k) x := by
  unfold mupd metV P.St.hit
  by_cases e : x = (n : Int)
  · subst e
    simp [hk]
  · rw [if_neg e]
    by_cases h0 : 0 ≤ x
    · have e2 : ¬ x.toNat = n := by omega
      simp [e2, h0]
    · simp [h0]
theorem cnt_keep (np : Nat) (st : P.St) (n k : Nat) (hk : 0 < k) (h : P.free? np st n = true) : P.cnt np (st.hit n k) = P.cnt np st + 1 := P.cnt_hit np st n k hk h
theorem grown_below {w w' : World} {b : Nat} (h : w.grownBy w' (some b)) : Chg (fun k => k = b) w w' := ⟨h.os, h.tape, h.output, h.size, fun k hk hs => h.block k hk (fun e => by cases e; exact hs rfl)⟩
/-- A page is met: what is stored. -/
theorem WkR.met {C : AC} {L S : Nat → Prop} {w : World} {st : P.St} {tk : Nat → Bool} {vS : Value} (h : WkR C L S w st tk vS) (n k : Nat) (hk : k ≠ 0) (hn : n < 1000000) (hc : P.cnt C.np st ≤ 5000) :
    ∃ w1, (Instr.mapUpdate 108 (.map (some C.m)) (.int .i64 (n : Int)) (.int .i64 (k : Int))).run Tryz.prog w = .ok () w1 ∧ Chg (fun j => j = C.m) w w1 ∧ (IsDev w C.d → ¬ C.d = C.m) ∧
      (P.free? C.np st n = true → WkR C L S w1 (st.hit n k) tk vS) ∧ (∃ vP vT, w1.heap[C.q]? = some (.cells (wkC C vP vT vS) 111 (0, 0))) := by
  obtain ⟨h1, h2, h3, h0, vP, vT, V, nm, nt, h4, h5, h6, h7, h8, h9, h10, h11, h12, h13⟩ := h
  obtain ⟨w1, hrun, hms, hg⟩ := h9.store intT (n : Int) (wf64 _ (by omega)) (by unfold maxLen; omega) (.int .i64 (k : Int))
  have hc1 := grown_below hg
  obtain ⟨es, ck, hmo⟩ := h9.obj
  have hq : C.q ≠ C.m := fun e => by rw [e, hmo] at h4; simp at h4
  have hp : ∀ k, vP.ownBlock = some k → ¬ k = C.m := fun k hk e => by
    rcases h5.2 with ⟨rfl, -⟩ | ⟨g, cap, cur, rfl, -, hg, -⟩
    · simp [Value.ownBlock] at hk
    · simp [Value.ownBlock] at hk
      subst hk
      rw [e, hmo] at hg
      simp at hg
  have hx : ∀ k, vT.ownBlock = some k → ¬ k = C.m := fun k hk e => by
    rcases h6.2 with ⟨rfl, -⟩ | ⟨g, cap, cur, rfl, -, hg, -⟩
    · simp [Value.ownBlock] at hk
    · simp [Value.ownBlock] at hk
      subst hk
      rw [e, hmo] at hg
      simp at hg
  refine ⟨w1, hrun, hc1, ?_, fun hf => ?_, vP, vT, (hc1.block _ (lt_of_block h4) hq).trans h4⟩
  · rintro ⟨c, fr, hd⟩ e
    rw [e, hmo] at hd
    cases hd
  · have hcn := cnt_keep C.np st n k (by omega) hf
    have hf2 := of_decide_eq_true hf
    refine ⟨fun j hj => Nat.lt_of_lt_of_le (h1 j hj) hg.size, h2, h3, fun j hj => ?_, vP, vT, V, nm + 1, nt, (hc1.block _ (lt_of_block h4) hq).trans h4, OVc.chg h5 hc1 hp, h6.chg hc1 hx, h7, h8, hms.ext (metV_hit st n k hk), by rw [hcn]; omega, h11.chg hc1 ?_, h12, fun n => (h13 n).chg hc1 (fun j e => e ▸ h2.2.1)⟩
    · unfold P.St.hit
      simp only
      rw [if_neg (by omega)]
      exact h0 j hj
    · exact fun e => h2.2.2.2.1 e.symm
/-- What reach tells. -/
def ReachOk (C : AC) (L S : Nat → Prop) (st : P.St) (tk : Nat → Bool) (vS : Value) (n k : Nat) (w : World) (e : Ending) (w' : World) : Prop :=
  (∃ v, e = .returned v ∧ OB w' w.heap.size v (P.pg C.img n) ∧ Wk C L S w' (st.hit n k) tk vS ∧ Stp S w S w') ∨ EndI C S w e w'
theorem Wk.metAt {C : AC} {L S : Nat → Prop} {w : World} {st : P.St} {tk : Nat → Bool} {vS : Value} (h : Wk C L S w st tk vS) (n : Nat) (hn : n < 1000000) :
    (Instr.lookup 108 (.map (some C.m)) (.int .i64 (n : Int)) false).run Tryz.prog w = .ok (.int .i64 (st.met n : Nat)) w := by
  obtain ⟨-, -, -, h1, h2, h3, h0, vP, vT, V, nm, nt, h4, h5, h6, h7, h8, h9, h10, h11, h12, h13⟩ := h
  rw [h9.look1 intT (n : Int) (wf64 _ (by omega))]
  congr 1
  unfold metV
  by_cases e : st.met n = 0
  · simp [e]
  · simp [e]
theorem Wk.cells {C : AC} {L S : Nat → Prop} {w : World} {st : P.St} {tk : Nat → Bool} {vS : Value} (h : Wk C L S w st tk vS) : ∃ vP vT, w.heap[C.q]? = some (.cells (wkC C vP vT vS) 111 (0, 0)) := by
  obtain ⟨-, -, -, h1, h2, h3, h0, vP, vT, V, nm, nt, h4, -⟩ := h
  exact ⟨vP, vT, h4⟩
set_option maxRecDepth 100000 in
set_option maxHeartbeats 1600000 in
theorem reach_ok (C : AC) (L S : Nat → Prop) (st : P.St) (tk : Nat → Bool) (vS : Value) (n k : Nat) (w : World) (h : Wk C L S w st tk vS) (hk : k ≠ 0) (hk9 : k < 9) (hf : P.free? C.np st n = true) :
    Calls Tryz.prog 79 #[.pointer (some ⟨C.q, 0, none⟩), .int .i64 (n : Int), .int .i64 (k : Int)] w (ReachOk C L S st tk vS n k w) := by
  have hf2 := of_decide_eq_true hf
  have hnp := h.2.2.1
  have hcl := P.free_lt hf
  have hcn := cnt_keep C.np st n k (by omega) hf
  have hla := h.metAt n (by omega)
  rw [hf2.1] at hla
  obtain ⟨vP, vT, hq⟩ := h.cells
  obtain ⟨w1, hrun, hc1, hdm, hwk, vP1, vT1, hq1⟩ := h.2.2.2.met n k hk (by omega) (by omega)
  have hw1 := hwk hf
  have hd1 : Dev (av L S) w1 C.d C.np C.img (C.o0 + P.cnt C.np st) (C.out0.drop (P.cnt C.np st)) := h.1.chg hc1 (fun j _ e => .inl (e ▸ h.2.2.2.2.1.2.1)) (hdm h.1.isDev)
  have hs1 : Stp S w S w1 := Stp.of hc1 (fun j e => e ▸ h.2.2.2.2.1.2.1)
  have hds := h.2.2.2.2.1.2.2.2.2
  have hg := cell_blk hq
  unfold wkC at hg
  have tl : (C.out0.drop (P.cnt C.np st)).tail = C.out0.drop (P.cnt C.np st + 1) := by rw [List.tail_drop]
  by_cases hl : lostO (C.out0.drop (P.cnt C.np st)) = true
  · have HR := Lib.hid (read_io C (av L S) _ _ vP1 vT1 vS n w1 hd1 hq1 hnp.1 hl (by omega) hf2.2.1 hf2.2.2)
    have HE := Lib.hid (fun (w' : World) (e1 : Dev (av L S) w' C.d C.np C.img (C.o0 + P.cnt C.np st + 1) (C.out0.drop (P.cnt C.np st)).tail) (e2 : Chg (fun k => k = C.d) w1 w') =>
      (show EndI C S w (pan 7) w' from ⟨rfl, S, P.cnt C.np st, hcl, (tl ▸ e1 : Dev (av L S) w' C.d C.np C.img (C.o0 + P.cnt C.np st + 1) (C.out0.drop (P.cnt C.np st + 1))).sets (fun j _ e => .inl e) hds, h.2.1, hl, hs1.trans (Stp.of e2 (fun j e => e ▸ hds))⟩))
    clear h hq hq1 hc1 hw1 hwk hd1 hs1 hcn hf hf2 hl hcl tl
    go_enter Tryz.func79, Tryz.ntmps79
    go_wp2_with (go_at_call 59; refine (must_t _).mono ?_; rintro e w2 ⟨rfl, rfl⟩)
    refine HR.out.mono ?_
    rintro e w2 ⟨rfl, h1, h2⟩
    exact ⟨rfl, .inr (HE.out _ h1 h2)⟩
  · have hl : lostO (C.out0.drop (P.cnt C.np st)) = false := by simpa using hl
    have HR := Lib.hid (read_ok C (av L S) _ _ vP1 vT1 vS n w1 hd1 hq1 hnp.1 hl (by omega) hf2.2.1 hf2.2.2)
    have HE := Lib.hid (fun (w' : World) (v : Value) (e0 : OB w' w1.heap.size v (P.pg C.img n)) (e1 : Dev (av L S) w' C.d C.np C.img (C.o0 + P.cnt C.np st + 1) (C.out0.drop (P.cnt C.np st)).tail) (e2 : Chg (fun k => k = C.d) w1 w') =>
      (show ReachOk C L S st tk vS n k w (.returned v) w' from .inl ⟨v, rfl, e0.mono hc1.size, ⟨by rw [hcn]; exact tl ▸ e1, fun i hi => by
          rw [hcn] at hi
          rcases Nat.lt_or_ge i (P.cnt C.np st) with h5 | h5
          · exact h.2.1 i h5
          · rw [show i = P.cnt C.np st by omega]; exact hl, hnp, hw1.dev e2 hd1.isDev hds⟩, hs1.trans (Stp.of e2 (fun j e => e ▸ hds))⟩))
    clear h hq hq1 hc1 hw1 hwk hd1 hs1 hcn hf hf2 hl hcl tl
    go_enter Tryz.func79, Tryz.ntmps79
    go_wp2_with (go_at_call 59; refine (must_t _).mono ?_; rintro e w2 ⟨rfl, rfl⟩)
    refine HR.out.mono ?_
    rintro e w2 ⟨v, rfl, h1, h2, h3⟩
    have HX := Lib.hid (HE.out _ _ h1 h2 h3)
    clear h1 h2 h3 hg hrun
    go_wp2
    go_ret
    exact HX.out
set_option maxRecDepth 100000 in
set_option maxHeartbeats 1600000 in
theorem reach_no (C : AC) (L S : Nat → Prop) (st : P.St) (tk : Nat → Bool) (vS : Value) (n k : Nat) (w : World) (h : Wk C L S w st tk vS) (hk : k ≠ 0) (hk9 : k < 9) (hn : n < 1000000) (hf : P.free? C.np st n = false) :
    Calls Tryz.prog 79 #[.pointer (some ⟨C.q, 0, none⟩), .int .i64 (n : Int), .int .i64 (k : Int)] w (EndC C S w) := by
  have hf2 := of_decide_eq_false hf
  have hnp := h.2.2.1
  have hla := h.metAt n hn
  obtain ⟨vP, vT, hq⟩ := h.cells
  have hg := cell_blk hq
  unfold wkC at hg
  have hcl := P.cnt_le C.np st
  by_cases h0 : st.met n = 0
  · obtain ⟨w1, hrun, hc1, hdm, hwk, vP1, vT1, hq1⟩ := h.2.2.2.met n k hk hn (by omega)
    have hd1 : Dev (av L S) w1 C.d C.np C.img (C.o0 + P.cnt C.np st) (C.out0.drop (P.cnt C.np st)) := h.1.chg hc1 (fun j _ e => .inl (e ▸ h.2.2.2.2.1.2.1)) (hdm h.1.isDev)
    have hs1 : Stp S w S w1 := Stp.of hc1 (fun j e => e ▸ h.2.2.2.2.1.2.1)
    rw [h0] at hla
    have HR := Lib.hid (read_no C vP1 vT1 vS (n : Int) w1 hq1 hnp.1 (by omega))
    have HE := Lib.hid (show EndC C S w (pan 8) w1 from ⟨rfl, S, P.cnt C.np st, hcl, hd1.sets (fun j _ e => .inl e) h.2.2.2.2.1.2.2.2.2, h.2.1, hs1⟩)
    clear h hq hq1 hc1 hwk hd1 hs1 hf hf2 h0
    go_enter Tryz.func79, Tryz.ntmps79
    go_wp2_with (go_at_call 59; refine (must_t _).mono ?_; rintro e w2 ⟨rfl, rfl⟩)
    refine HR.out.mono ?_
    rintro e w2 ⟨rfl, rfl⟩
    exact ⟨rfl, HE.out⟩
  · have hb : ((st.met n : Int) == 0) = false := by simpa using h0
    have HE := Lib.hid h.endC
    clear h hq hf hf2 h0
    go_enter Tryz.func79, Tryz.ntmps79
    go_wp2_with (go_at_call 59; refine (must_f _).mono ?_; rintro e w2 ⟨rfl, rfl⟩)
    exact ⟨rfl, HE.out⟩
end Go.Proofs.YtnjpaanjgbfbaaaGreat
/- The walker: one more piece, its text. -/
namespace Go.Proofs.YtnjpaanjgbfbaaaGreat
set_option linter.unusedVariables false
set_option linter.unusedSimpArgs false
open Go.RowKit

/-- Where a row lies: a block of cells of the element's type. -/
theorem OV.kind {w : World} {B : Nat} {t : TypeId} {s : Nat} {v : Value} {n : Nat} {l : List Value} (h : OV w B t s v n l) (k : Nat) (hk : v.ownBlock = some k) : ∃ c, w.heap[k]? = some (.cells c t (0, 0)) := by
  rcases h.2 with ⟨rfl, -⟩ | ⟨g, cap, cur, rfl, -, hg, -⟩
  · simp [Value.ownBlock] at hk
  · simp [Value.ownBlock] at hk
    subst hk
    exact ⟨_, hg⟩
theorem OB.kind {w : World} {B : Nat} {v : Value} {l : List UInt8} (h : OB w B v l) (k : Nat) (hk : v.ownBlock = some k) : ∃ c, w.heap[k]? = some (.cells c 5 (0, 0)) := by
  rcases h.2 with ⟨rfl, -⟩ | ⟨g, cap, cur, rfl, -, hg, -⟩
  · simp [Value.ownBlock] at hk
  · simp [Value.ownBlock] at hk
    subst hk
    exact ⟨_, hg⟩
theorem TxIs.sub {C : AC} {L S T : Nat → Prop} {w w' : World} {n : Nat} {b : Bool} {v : Option Value} (h : TxIs C L S w n b v) (hc : Chg S w w') (hT : ∀ j, j < w.heap.size → T j → S j) : TxIs C L T w' n b v := by
  cases b
  · exact h
  · obtain ⟨a, m, cp, e, hr, hm, ha⟩ := h
    exact ⟨a, m, cp, e, hr.chg hc (fun p e ht => (ha p e).1 (.inl ht)), hm, fun p e => ⟨fun ht => (ha p e).1 (by rcases ht with ht | ht; exact .inl (hT _ (ha p e).2 ht); exact .inr ht), Nat.lt_of_lt_of_le (ha p e).2 hc.size⟩⟩
theorem qCs_add (l : List P.Q) (x : P.Q) : qCs (l ++ [x]) = qCs l ++ qC x := by simp [qCs]
theorem Wk.addP {C : AC} {L S : Nat → Prop} {w : World} {st : P.St} {tk : Nat → Bool} {vS : Value} (h : Wk C L S w st tk vS) : ∃ vP vT, w.heap[C.q]? = some (.cells (wkC C vP vT vS) 111 (0, 0)) ∧ OV w C.B 59 4 vP st.ps.length (qCs st.ps) ∧
    (∀ W w5 v5 x, Below w.heap.size w W → W.grownBy w5 vP.ownBlock → (v5.ownBlock = vP.ownBlock ∨ v5.ownBlock = some W.heap.size) → OV w5 C.B 59 4 v5 (st.ps.length + 1) (qCs st.ps ++ qC x) →
      w5.heap[C.q]? = some (.cells (wkC C vP vT vS) 111 (0, 0)) ∧ ∃ S', Wk C L S' (w5.setCell ⟨C.q, 18, none⟩ v5) ⟨st.met, st.ps ++ [x], st.tx⟩ tk vS ∧ Stp S w S' (w5.setCell ⟨C.q, 18, none⟩ v5)) := by
  obtain ⟨hd, hcl, hnp, h1, h2, h3, h0, vP, vT, V, nm, nt, h4, h5, h6, h7, h8, h9, h10, h11, h12, h13⟩ := h
  refine ⟨vP, vT, h4, h5, fun W w5 v5 x hb hg hat ho => ?_⟩
  obtain ⟨es1, ck1, hm1⟩ := h9.obj
  obtain ⟨es2, ck2, hm2⟩ := h11.obj
  obtain ⟨cd, fr, hdd⟩ := hd.isDev
  have hqP : ∀ k, vP.ownBlock = some k → k ≠ C.q ∧ k ≠ C.m ∧ k ≠ C.t ∧ k ≠ C.d ∧ vT.ownBlock ≠ some k := fun k hk => by
    obtain ⟨c, hc⟩ := h5.kind k hk
    refine ⟨fun e => ?_, fun e => ?_, fun e => ?_, fun e => ?_, fun e => ?_⟩
    · rw [e, h4] at hc; simp at hc
    · rw [e, hm1] at hc; simp at hc
    · rw [e, hm2] at hc; simp at hc
    · rw [e, hdd] at hc; simp at hc
    · obtain ⟨c2, hc2⟩ := h6.kind k e
      rw [hc2] at hc; simp at hc
  have hqm : C.q ≠ C.m := fun e => by rw [e, hm1] at h4; simp at h4
  have hqt : C.q ≠ C.t := fun e => by rw [e, hm2] at h4; simp at h4
  have hqd : C.q ≠ C.d := fun e => by rw [e, hdd] at h4; simp at h4
  have hqT : ∀ k, vT.ownBlock = some k → k ≠ C.q := fun k hk e => by
    obtain ⟨c, hc⟩ := h6.kind k hk
    rw [e, h4] at hc; simp at hc
  have hlq := lt_of_block h4
  have hc5 : Chg (fun j => some j = vP.ownBlock) w w5 := (Chg.of_below hb _).trans (grown_chg hg)
  have hq5 : w5.heap[C.q]? = some (.cells (wkC C vP vT vS) 111 (0, 0)) := (hc5.block _ hlq (fun e => (hqP _ e.symm).1 rfl)).trans h4
  refine ⟨hq5, fun j => S j ∨ v5.ownBlock = some j, ?_⟩
  have hcc : Chg (fun j => some j = vP.ownBlock ∨ j = C.q) w (w5.setCell ⟨C.q, 18, none⟩ v5) := (hc5.mono fun j _ e => .inl e).trans ((Chg.refl _ w5).setCell _ _ (.inr (.inr rfl)))
  have hsub : ∀ j, (some j = vP.ownBlock ∨ j = C.q) → S j := fun j e => by
    rcases e with e | e
    · exact h7 j e.symm
    · exact e ▸ h2.1
  have hS' : ∀ j, j < w.heap.size → (S j ∨ v5.ownBlock = some j) → S j := fun j hj e => by
    rcases e with e | e
    · exact e
    · rcases hat with e2 | e2
      · exact h7 j (by rw [← e2]; exact e)
      · rw [e2] at e
        cases e
        have := hb.size
        omega
  have h5k := World.ownsRow.lt ho
  have hS5 : ∀ j, av L (fun j => S j ∨ v5.ownBlock = some j) j → j < w5.heap.size := fun j e => by
    rcases e with (e | e) | e
    · exact Nat.lt_of_lt_of_le (h1 j (.inl e)) hc5.size
    rotate_left
    · exact Nat.lt_of_lt_of_le (h1 j (.inr e)) hc5.size
    · obtain ⟨c, hc⟩ := ho.kind j e
      exact lt_of_block hc
  have hv5q : ∀ k, v5.ownBlock = some k → ¬ k = C.q := fun k hk e => by
    obtain ⟨c, hc⟩ := ho.kind k hk
    rw [e, hq5] at hc
    simp at hc
  refine ⟨⟨?_, hcl, hnp, fun j e => ?_, ⟨.inl h2.1, .inl h2.2.1, .inl h2.2.2.1, h2.2.2.2.1, .inl h2.2.2.2.2⟩, ?_, h0, v5, vT, V, nm, nt, ?_, ?_, ?_, fun k hk => .inr hk, fun k hk => .inl (h8 k hk), ?_, h10, ?_, h12, fun n => (h13 n).sub (hcc.mono fun j _ e => hsub j e) hS'⟩, ⟨hcc.mono fun j _ e => hsub j e, hS'⟩⟩
  · exact (hd.sets (T := av L (fun j => S j ∨ v5.ownBlock = some j)) (fun j hj e => by rcases e with e | e; exact .inl (hS' j hj e); exact .inr e) (.inl (.inl h2.2.2.2.2))).chg hcc (fun j _ e => .inl (.inl (hsub j e))) (by
      rintro (e | e)
      · exact (hqP _ e.symm).2.2.2.1 rfl
      · exact hqd e.symm)
  · have := hS5 j e
    simp [World.setCell]
    exact this
  · simp
    omega
  · rw [blk_setCell hq5]
    rfl
  · show OV _ _ _ _ _ (st.ps ++ [x]).length (qCs (st.ps ++ [x]))
    rw [qCs_add, List.length_append]
    exact OVc.chg ho (setCell_chg _ _ _ _) hv5q
  · exact h6.chg hcc (fun k hk e => by
      rcases e with e | e
      · exact (hqP k e.symm).2.2.2.2 hk
      · exact hqT k hk e)
  · exact h9.chg hcc (by
      rintro (e | e)
      · exact (hqP _ e.symm).2.1 rfl
      · exact hqm e.symm)
  · exact h11.chg hcc (by
      rintro (e | e)
      · exact (hqP _ e.symm).2.2.1 rfl
      · exact hqt e.symm)
theorem Wk.addT {C : AC} {L S : Nat → Prop} {w : World} {st : P.St} {tk : Nat → Bool} {vS : Value} (h : Wk C L S w st tk vS) : ∃ vP vT, w.heap[C.q]? = some (.cells (wkC C vP vT vS) 111 (0, 0)) ∧ OB w C.B vT st.tx ∧
    (∀ W w5 v5 x, Below w.heap.size w W → W.grownBy w5 vT.ownBlock → (v5.ownBlock = vT.ownBlock ∨ v5.ownBlock = some W.heap.size) → OB w5 C.B v5 (st.tx ++ x) → (st.tx ++ x).length ≤ 248 * st.ps.length →
      w5.heap[C.q]? = some (.cells (wkC C vP vT vS) 111 (0, 0)) ∧ ∃ S', Wk C L S' (w5.setCell ⟨C.q, 19, none⟩ v5) ⟨st.met, st.ps, st.tx ++ x⟩ tk vS ∧ Stp S w S' (w5.setCell ⟨C.q, 19, none⟩ v5)) := by
  obtain ⟨hd, hcl, hnp, h1, h2, h3, h0, vP, vT, V, nm, nt, h4, h5, h6, h7, h8, h9, h10, h11, h12, h13⟩ := h
  refine ⟨vP, vT, h4, h6, fun W w5 v5 x hb hg hat ho hbd => ?_⟩
  obtain ⟨es1, ck1, hm1⟩ := h9.obj
  obtain ⟨es2, ck2, hm2⟩ := h11.obj
  obtain ⟨cd, fr, hdd⟩ := hd.isDev
  have hqP : ∀ k, vT.ownBlock = some k → k ≠ C.q ∧ k ≠ C.m ∧ k ≠ C.t ∧ k ≠ C.d ∧ vP.ownBlock ≠ some k := fun k hk => by
    obtain ⟨c, hc⟩ := h6.kind k hk
    refine ⟨fun e => ?_, fun e => ?_, fun e => ?_, fun e => ?_, fun e => ?_⟩
    · rw [e, h4] at hc; simp at hc
    · rw [e, hm1] at hc; simp at hc
    · rw [e, hm2] at hc; simp at hc
    · rw [e, hdd] at hc; simp at hc
    · obtain ⟨c2, hc2⟩ := h5.kind k e
      rw [hc2] at hc; simp at hc
  have hqm : C.q ≠ C.m := fun e => by rw [e, hm1] at h4; simp at h4
  have hqt : C.q ≠ C.t := fun e => by rw [e, hm2] at h4; simp at h4
  have hqd : C.q ≠ C.d := fun e => by rw [e, hdd] at h4; simp at h4
  have hqT : ∀ k, vP.ownBlock = some k → k ≠ C.q := fun k hk e => by
    obtain ⟨c, hc⟩ := h5.kind k hk
    rw [e, h4] at hc; simp at hc
  have hlq := lt_of_block h4
  have hc5 : Chg (fun j => some j = vT.ownBlock) w w5 := (Chg.of_below hb _).trans (grown_chg hg)
  have hq5 : w5.heap[C.q]? = some (.cells (wkC C vP vT vS) 111 (0, 0)) := (hc5.block _ hlq (fun e => (hqP _ e.symm).1 rfl)).trans h4
  refine ⟨hq5, fun j => S j ∨ v5.ownBlock = some j, ?_⟩
  have hcc : Chg (fun j => some j = vT.ownBlock ∨ j = C.q) w (w5.setCell ⟨C.q, 19, none⟩ v5) := (hc5.mono fun j _ e => .inl e).trans ((Chg.refl _ w5).setCell _ _ (.inr (.inr rfl)))
  have hsub : ∀ j, (some j = vT.ownBlock ∨ j = C.q) → S j := fun j e => by
    rcases e with e | e
    · exact h8 j e.symm
    · exact e ▸ h2.1
  have hS' : ∀ j, j < w.heap.size → (S j ∨ v5.ownBlock = some j) → S j := fun j hj e => by
    rcases e with e | e
    · exact e
    · rcases hat with e2 | e2
      · exact h8 j (by rw [← e2]; exact e)
      · rw [e2] at e
        cases e
        have := hb.size
        omega
  have hS5 : ∀ j, av L (fun j => S j ∨ v5.ownBlock = some j) j → j < w5.heap.size := fun j e => by
    rcases e with (e | e) | e
    · exact Nat.lt_of_lt_of_le (h1 j (.inl e)) hc5.size
    rotate_left
    · exact Nat.lt_of_lt_of_le (h1 j (.inr e)) hc5.size
    · obtain ⟨c, hc⟩ := ho.kind j e
      exact lt_of_block hc
  have hv5q : ∀ k, v5.ownBlock = some k → ¬ k = C.q := fun k hk e => by
    obtain ⟨c, hc⟩ := ho.kind k hk
    rw [e, hq5] at hc
    simp at hc
  refine ⟨⟨?_, hcl, hnp, fun j e => ?_, ⟨.inl h2.1, .inl h2.2.1, .inl h2.2.2.1, h2.2.2.2.1, .inl h2.2.2.2.2⟩, hbd, h0, vP, v5, V, nm, nt, ?_, ?_, ?_, fun k hk => .inl (h7 k hk), fun k hk => .inr hk, ?_, h10, ?_, h12, fun n => (h13 n).sub (hcc.mono fun j _ e => hsub j e) hS'⟩, ⟨hcc.mono fun j _ e => hsub j e, hS'⟩⟩
  · exact (hd.sets (T := av L (fun j => S j ∨ v5.ownBlock = some j)) (fun j hj e => by rcases e with e | e; exact .inl (hS' j hj e); exact .inr e) (.inl (.inl h2.2.2.2.2))).chg hcc (fun j _ e => .inl (.inl (hsub j e))) (by
      rintro (e | e)
      · exact (hqP _ e.symm).2.2.2.1 rfl
      · exact hqd e.symm)
  · have := hS5 j e
    simp [World.setCell]
    exact this
  · rw [blk_setCell hq5]
    rfl
  · exact OVc.chg h5 hcc (fun k hk e => by
      rcases e with e | e
      · exact (hqP k e.symm).2.2.2.2 hk
      · exact hqT k hk e)
  · exact OB.chg ho (setCell_chg _ _ _ _) hv5q
  · exact h9.chg hcc (by
      rintro (e | e)
      · exact (hqP _ e.symm).2.1 rfl
      · exact hqm e.symm)
  · exact h11.chg hcc (by
      rintro (e | e)
      · exact (hqP _ e.symm).2.2.1 rfl
      · exact hqt e.symm)
/-- Blocks of a caller's own are laid beside. -/
theorem Wk.lay {C : AC} {L S X : Nat → Prop} {w w0 : World} {st : P.St} {tk : Nat → Bool} {vS : Value} (h : Wk C L S w st tk vS) (hb : Below w.heap.size w w0) (hX : ∀ j, X j → w.heap.size ≤ j ∧ j < w0.heap.size) : Wk C (addL L X) S w0 st tk vS := by
  obtain ⟨hd, hcl, hnp, h1, h2, h3, h0, vP, vT, V, nm, nt, h4, h5, h6, h7, h8, h9, h10, h11, h12, h13⟩ := h
  have hav : ∀ j, j < w.heap.size → av (addL L X) S j → av L S j := fun j hj e => by
    rcases e with e | e | e
    · exact .inl e
    · exact .inr e
    · have := (hX j e).1
      omega
  refine ⟨(hd.sets (T := av (addL L X) S) hav (.inl h2.2.2.2.2)).below hb, hcl, hnp, fun j e => ?_, h2, h3, h0, vP, vT, V, nm, nt, (hb.block _ (lt_of_block h4)).trans h4, h5.below hb, h6.below hb, h7, h8, h9.below hb, h10, h11.below hb, h12, fun n => ?_⟩
  · rcases e with e | e | e
    · exact Nat.lt_of_lt_of_le (h1 j (.inl e)) hb.size
    · exact Nat.lt_of_lt_of_le (h1 j (.inr e)) hb.size
    · exact (hX j e).2
  · have hx := h13 n
    rcases htk : tk n with _ | _
    · rw [htk] at hx; exact hx
    · rw [htk] at hx
      obtain ⟨a, m, cp, e, hr, hm, ha⟩ := hx
      exact ⟨a, m, cp, e, hr.below hb, hm, fun p e => ⟨fun ht => (ha p e).1 (hav _ (ha p e).2 ht), Nat.lt_of_lt_of_le (ha p e).2 hb.size⟩⟩
theorem Wk.unlay {C : AC} {L S X : Nat → Prop} {w : World} {st : P.St} {tk : Nat → Bool} {vS : Value} (h : Wk C (addL L X) S w st tk vS) : Wk C L S w st tk vS := by
  obtain ⟨hd, hcl, hnp, h1, h2, h3, h0, vP, vT, V, nm, nt, h4, h5, h6, h7, h8, h9, h10, h11, h12, h13⟩ := h
  have hav : ∀ j, av L S j → av (addL L X) S j := fun j e => by
    rcases e with e | e
    · exact .inl e
    · exact .inr (.inl e)
  refine ⟨hd.sets (T := av L S) (fun j _ e => hav j e) (.inl h2.2.2.2.2), hcl, hnp, fun j e => h1 j (hav j e), h2, h3, h0, vP, vT, V, nm, nt, h4, h5, h6, h7, h8, h9, h10, h11, h12, fun n => ?_⟩
  have hx := h13 n
  rcases htk : tk n with _ | _
  · rw [htk] at hx; exact hx
  · rw [htk] at hx
    obtain ⟨a, m, cp, e, hr, hm, ha⟩ := hx
    exact ⟨a, m, cp, e, hr, hm, fun p e => ⟨fun ht => (ha p e).1 (hav _ ht), (ha p e).2⟩⟩
/-- A block of the caller's own is written. -/
theorem Wk.local {C : AC} {L S : Nat → Prop} {w w' : World} {st : P.St} {tk : Nat → Bool} {vS : Value} (h : Wk C L S w st tk vS) (j : Nat) (hj : L j) (hS : ¬ S j) (hc : Chg (fun k => k = j) w w') : Wk C L S w' st tk vS := by
  obtain ⟨hd, hcl, hnp, h1, h2, h3, h0, vP, vT, V, nm, nt, h4, h5, h6, h7, h8, h9, h10, h11, h12, h13⟩ := h
  have hn : ∀ k, S k → ¬ k = j := fun k hk e => hS (e ▸ hk)
  refine ⟨hd.chg hc (fun k _ e => .inr (e ▸ hj)) (hn _ h2.2.2.2.2), hcl, hnp, fun k e => Nat.lt_of_lt_of_le (h1 k e) hc.size, h2, h3, h0, vP, vT, V, nm, nt, (hc.block _ (lt_of_block h4) (hn _ h2.1)).trans h4, OVc.chg h5 hc (fun k hk => hn _ (h7 k hk)), h6.chg hc (fun k hk => hn _ (h8 k hk)), h7, h8, h9.chg hc (hn _ h2.2.1), h10, h11.chg hc (hn _ h2.2.2.1), h12, fun n => ?_⟩
  have hx := h13 n
  rcases htk : tk n with _ | _
  · rw [htk] at hx; exact hx
  · rw [htk] at hx
    obtain ⟨a, m, cp, e, hr, hm, ha⟩ := hx
    exact ⟨a, m, cp, e, hr.chg hc (fun p e ht => (ha p e).1 (.inr (by rw [ht]; exact hj))), hm, fun p e => ⟨(ha p e).1, Nat.lt_of_lt_of_le (ha p e).2 hc.size⟩⟩
end Go.Proofs.YtnjpaanjgbfbaaaGreat
