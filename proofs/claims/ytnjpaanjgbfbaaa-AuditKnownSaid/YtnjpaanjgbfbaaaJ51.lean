/- The laws of chapter 12: what they use: an image that was built, the walks of Open. -/
import Derived.Test.YtnjpaanjgbfbaaaJ50
import Derived.Test.YtnjpaanjgbfbaaaJ12
namespace Go.Proofs.Ytnjpaanjgbfbaaa
set_option linter.unusedVariables false
set_option linter.unusedSimpArgs false
open Go.RowKit

/-- What is known of an image that was built. -/
def Built (np : Nat) (S t : List UInt8) (s : P.Sup) (I : List UInt8) : Prop :=
  ∃ st A4, opens np I = some (s, 0, t, st) ∧ walkSpec (specC np I s) = some (t, st) ∧ st.ps.length = S.length ∧ (∀ m, 0 < st.met m ↔ 2 ≤ m ∧ m < A4) ∧ 2 + S.length + 1 ≤ A4 ∧ A4 ≤ np ∧ s.chk = 0
theorem build_ok (np : Nat) (S t : List UInt8) (aS : Option Addr) (nS cS : Nat) (aT : Option Addr) (nT cT : Nat) (gen : Int) (w : World) (hS : Rd w aS nS S) (hT : Rd w aT nT t) (hcT : nT ≤ cT)
    (hg : -9223372036854775808 ≤ gen ∧ gen ≤ 9223372036854775807) (hnS : nS ≤ 150) (hnT : nT ≤ 1000) (hnp : nS + 13 ≤ np) (hnq : nS + 11 + P.needN nT + P.needN ((np + 7) / 8) ≤ np) (hnp2 : np ≤ 4096) :
    Calls Try.prog 6 #[.int .i64 (np : Int), .slice aS nS cS, .slice aT nT cT, .int .i64 gen] w fun e w' =>
      ∃ g s I, Built np S t s I ∧ e = .returned (.tuple #[.slice (some ⟨g, 0, none⟩) (np * 256) (np * 256), supV s]) ∧ ImgAt w' w.heap.size g (np * 256) (np * 256) I ∧ Below w.heap.size w w' := by
  refine (build_any np S t aS nS cS aT nT cT gen w hS hT hcT hg hnS hnT hnp hnq hnp2).mono ?_
  rintro e w' ⟨g, R, H, A2, img, hgr, hb, rfl, him, hbl⟩
  have e1 : S.length = nS := hS.1
  have e2 : t.length = nT := hT.1
  have h1 : 1 ≤ P.needN ((np + 7) / 8) := by unfold P.needN; omega
  obtain ⟨st, A4, q1, q2, q3, q4, q5, q6⟩ := bld_opens np S t gen R H A2 img hg (by omega) (by omega) (by omega) (by rw [e1, e2]; exact hnq) hnp2 hgr ⟨hb.2.2.1, hb.2.2.2⟩
  exact ⟨g, _, _, ⟨st, A4, q1, q2, by rw [q3, psI_length], q4, q5, q6, supI_chk np S t gen R H A2 img hg (by omega) (by omega) (by omega) (by rw [e1, e2]; omega) hnp2 hgr ⟨hb.2.2.1, hb.2.2.2⟩⟩, rfl, him, hbl⟩
theorem clean_nil (k : Nat) : lostO (([] : List UInt8).drop k) = false := by rw [List.drop_nil]; rfl
/-- How the program's Open ends on a device whose calls do not fail. -/
def AOEnd (d np : Nat) (img : List UInt8) (ops : Nat) (w : World) (e : Ending) (w' : World) : Prop :=
  Chg (OnlyD d) w w' ∧ ∃ k, k ≤ np + 2 ∧ Dev (OnlyD d) w' d np img (ops + k) [] ∧
  ((∃ s pl sl st aP cP aT cT aS cS aG cG, opens np img = some (s, pl, sl, st) ∧ e = .returned (.tuple #[.agg (repC s pl (.slice aP st.ps.length cP) (.slice aT st.tx.length cT) (.slice aS sl.length cS) (.slice aG (pgsTo st np).length cG)), .int .i64 0]) ∧ RepRd w' st.ps st.tx sl (pgsTo st np) aP aT aS aG) ∨
   (opens np img = none ∧ e = .returned (.tuple #[repZ, .int .i64 8])))
theorem aopen_ok (d np : Nat) (img : List UInt8) (ops : Nat) (w : World) (h : Dev (OnlyD d) w d np img ops []) (ho : ops ≤ 800000) :
    Calls Try.prog 12 #[.pointer (some ⟨d, 0, none⟩)] w (AOEnd d np img ops w) := by
  refine (aopen_any d np img ops [] w h ho).mono ?_
  rintro e w' ⟨hc, ⟨s, pl, sl, st, vP, vT, vS, vG, hop, rfl, hr, hD, -⟩ | ⟨hop, rfl, k, hk, hD, -⟩ | ⟨-, k, hk, -, -, hl⟩⟩
  · obtain ⟨aP, cP, aT, cT, aS, cS, aG, cG, rfl, rfl, rfl, rfl, hrr⟩ := hr.rd
    rw [List.drop_nil] at hD
    exact ⟨hc, _, by have := P.cnt_le np st; omega, hD, .inl ⟨s, pl, sl, st, aP, cP, aT, cT, aS, cS, aG, cG, hop, rfl, hrr⟩⟩
  · rw [List.drop_nil] at hD
    exact ⟨hc, k, hk, hD, .inr ⟨hop, rfl⟩⟩
  · rw [clean_nil] at hl
    cases hl
/-- Open on an image that was built. -/
def BOpen (d np : Nat) (S t : List UInt8) (s : P.Sup) (I : List UInt8) (ops : Nat) (w : World) (e : Ending) (w' : World) : Prop :=
  Chg (OnlyD d) w w' ∧ ∃ st k aP cP aT nT cT aS cS aG nG cG, opens np I = some (s, 0, t, st) ∧ S.length = st.ps.length ∧ nT = st.tx.length ∧ nG = (pgsTo st np).length ∧ k ≤ np + 2 ∧ Dev (OnlyD d) w' d np I (ops + k) [] ∧
    e = .returned (.tuple #[.agg (repC s 0 (.slice aP S.length cP) (.slice aT nT cT) (.slice aS t.length cS) (.slice aG nG cG)), .int .i64 0]) ∧ RepRd w' st.ps st.tx t (pgsTo st np) aP aT aS aG
theorem bopen_ok (d np : Nat) (S t : List UInt8) (s : P.Sup) (I : List UInt8) (ops : Nat) (w : World) (hB : Built np S t s I) (h : Dev (OnlyD d) w d np I ops []) (ho : ops ≤ 800000) :
    Calls Try.prog 12 #[.pointer (some ⟨d, 0, none⟩)] w (BOpen d np S t s I ops w) := by
  obtain ⟨st0, A4, q1, -, q3, -⟩ := hB
  refine (aopen_ok d np I ops w h ho).mono ?_
  rintro e w' ⟨hc, k, hk, hD, ⟨s', pl, sl, st, aP, cP, aT, cT, aS, cS, aG, cG, hop, rfl, hr⟩ | ⟨hop, -⟩⟩
  · have := hop.symm.trans q1
    simp only [Option.some.injEq, Prod.mk.injEq] at this
    obtain ⟨rfl, rfl, rfl, rfl⟩ := this
    exact ⟨hc, st, k, aP, cP, aT, _, cT, aS, cS, aG, _, cG, hop, q3.symm, rfl, rfl, hk, hD, by rw [q3], hr⟩
  · rw [q1] at hop
    cases hop
end Go.Proofs.Ytnjpaanjgbfbaaa
/- The law of chapter 12: awake; AuditOpens. -/
namespace Go.Proofs.Ytnjpaanjgbfbaaa
set_option linter.unusedVariables false
set_option linter.unusedSimpArgs false
open Go.RowKit

set_option maxRecDepth 100000 in
set_option maxHeartbeats 3200000 in
theorem awake12_any (w : World) : Calls Try.prog 5 #[] w fun e w' => e = .returned (.bool true) ∧ Below w.heap.size w w' := by
  obtain ⟨w0, hw0⟩ : ∃ w0, w0 = (w.alloc (.cells #[.int .u8 1, .int .u8 2, .int .u8 3] 5)).alloc (.cells #[.int .u8 9] 5) := ⟨_, rfl⟩
  have hb0 : Below w.heap.size w w0 := by rw [hw0]; exact ((Below.refl _ w).alloc (Nat.le_refl _) _).alloc (by simp) _
  have hS : Rd w0 (some ⟨w.heap.size, 0, none⟩) 3 [1, 2, 3] := by
    rw [hw0]
    exact (Rd_lit w 5 [1, 2, 3] (by simp [maxLen])).below ((Below.refl _ _).alloc (Nat.le_refl _) _)
  have hT : Rd w0 (some ⟨w.heap.size + 1, 0, none⟩) 1 [9] := by
    rw [hw0]
    have h := Rd_lit (w.alloc (.cells #[.int .u8 1, .int .u8 2, .int .u8 3] 5)) 5 [9] (fr := (0, 0)) (by simp [maxLen])
    have e : (w.alloc (.cells #[.int .u8 1, .int .u8 2, .int .u8 3] 5)).heap.size = w.heap.size + 1 := by simp
    rw [e] at h
    exact h
  have HB := Lib.hid (build_ok 16 [1, 2, 3] [9] (some ⟨w.heap.size, 0, none⟩) 3 3 (some ⟨w.heap.size + 1, 0, none⟩) 1 1 5 w0 hS hT (Nat.le_refl _) (by omega) (by omega) (by omega) (by omega) (by decide) (by omega))
  have HB0 := Lib.hid hb0
  clear hS hT hb0
  go_enter Try.func5, Try.ntmps5
  go_wp2_with fail
  rw [← hw0]
  clear hw0
  refine HB.out.mono ?_
  rintro e w1 ⟨g, s, I, hBu, rfl, him, hb1⟩
  have hbb1 := below_then HB0.out hb1 HB0.out.size
  have HBU := Lib.hid hBu
  have HI1 := Lib.hid him
  clear hBu him hb1 HB
  unfold supV
  go_wp2_with fail
  have hb2 : Below w1.heap.size w1 (w1.alloc (.cells #[.int .i64 s.g, .int .i64 s.p, .int .i64 s.r, .int .i64 s.h, .int .i64 s.b, .int .i64 s.l, .int .i64 s.s, .int .i64 s.f] 24)) := (Below.refl _ w1).alloc (Nat.le_refl _) _
  have hk2 : (w1.alloc (.cells #[.int .i64 s.g, .int .i64 s.p, .int .i64 s.r, .int .i64 s.h, .int .i64 s.b, .int .i64 s.l, .int .i64 s.s, .int .i64 s.f] 24)).heap[w1.heap.size]? = _ := alloc_new _ _ _ rfl
  generalize w1.alloc (.cells #[.int .i64 s.g, .int .i64 s.p, .int .i64 s.r, .int .i64 s.h, .int .i64 s.b, .int .i64 s.l, .int .i64 s.s, .int .i64 s.f] 24) = w2 at *
  have hbb2 := below_then hbb1 hb2 hbb1.size
  have HK2 := Lib.hid hk2
  have HL := Lib.hid (load_any (some ⟨g, 0, none⟩) (16 * 256) (16 * 256) 16 I w2 (HI1.out.below hb2).rd.1 (Nat.le_refl _) (by omega) (by omega) (by omega))
  clear hb2 hk2
  refine HL.out.mono ?_
  rintro e w3 ⟨d, rfl, hd, hD, hb3⟩
  have HK3 := Lib.hid ((hb3.block _ (lt_of_block HK2.out)).trans HK2.out)
  have hbb3 := below_then hbb2 hb3 hbb2.size
  have HO := Lib.hid (bopen_ok d 16 [1, 2, 3] [9] s I 0 w3 HBU.out hD (by omega))
  have HD := Lib.hid (show w2.heap.size ≤ d from hd)
  clear hd hD hb3
  go_wp2_with fail
  refine HO.out.mono ?_
  rintro e w4 ⟨hc4, st, k, aP, cP, aT, nT, cT, aS, cS, aG, nG, cG, -, -, -, -, -, -, rfl, -⟩
  have hbb4 := below_chg hbb3 hc4 hbb3.size (fun i e => by have := HD.out; have := hbb2.size; unfold OnlyD at e; omega)
  have hk4 := (hc4.block _ (lt_of_block HK3.out) (by have := HD.out; have := lt_of_block HK2.out; unfold OnlyD; omega)).trans HK3.out
  have g4 := cell_blk hk4
  have l4 := lt_of_block hk4
  have l4' : ¬ w1.heap.size = w4.heap.size := by omega
  unfold repC
  clear hc4 hk4
  go_wp2
  go_ret
  exact ⟨rfl, hbb4.alloc hbb4.size _⟩
end Go.Proofs.Ytnjpaanjgbfbaaa
