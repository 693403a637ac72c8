/- The pool: room. -/
import Derived.Test.YtocepcibcapfbaaGreatJ30
namespace Go.Proofs.YtocepcibcapfbaaGreat
set_option linter.unusedVariables false
set_option linter.unusedSimpArgs false
set_option linter.unusedSectionVars false
open Go.RowKit
variable [Inhabited AvT]
variable {B o c : Nat} {w : World} {p d np N : Nat} {x : P.Po}

/-- How room ends. -/
def RmE (B o c : Nat) (p d np N : Nat) (x : P.Po) (w : World) (e : Ending) (w' : World) : Prop :=
  PoV B o c w p d np N (x.takeP N) w' ∧ ((x.takeE N = 0 ∧ e = .returned (.tuple #[])) ∨ (x.takeE N ≠ 0 ∧ e = panE (x.takeE N)))
theorem oneE_none {x : P.Po} (h : x.oneE = 6) : x.oneP = x := by
  unfold P.Po.oneE at h
  unfold P.Po.oneP
  rcases hv : P.victim x.l with _ | f
  · rfl
  · rw [hv] at h
    simp only at h
    split at h
    · rcases wrE_cases x.d with e | e <;> omega
    · omega
set_option maxRecDepth 100000 in
set_option maxHeartbeats 3200000 in
theorem proom_any (h : PoIs B o c w p d np N x) (hop : x.d.ops < 1000000) : Calls Tryz.prog 42 #[.pointer (some ⟨p, 0, none⟩)] w (RmE B o c p d np N x w) := by
  have hdr : Below w.heap.size w w.drew := below_of_drew (Below.refl _ _)
  have HLV := Lib.hid (pleave_any (h.below hdr) hop)
  have HDR := Lib.hid hdr
  have H := Lib.hid h
  obtain ⟨⟨mb, n, F, vo, V, hs⟩, hok⟩ := h
  have hlen : ∀ ty, (Builtin.len_ #[67] ty #[.map (some mb)]).run Tryz.prog { w with drawn := w.drawn + 1 } = .ok (.int .i64 (x.l.length : Int)) { w with drawn := w.drawn + 1 } := fun ty => by
    have h2 := (hs.below hdr).map.len (x.l.map (·.pg)) hok.1 (fun k hk => by
      rw [hs.look k]
      by_cases h0 : 0 ≤ k
      · rw [if_pos h0, Option.isSome_map, P.at_isSome]
        simp [h0]
      · rw [if_neg h0]
        simp [h0]) (fun k hk => by have := hs.big.2.2.1 k hk; have := hs.big.2.2.2.2; omega) ty
    rw [List.length_map] at h2
    exact h2
  have g := cell_blk hs.pool
  unfold poolC at g
  have hN := hs.big.2.1
  obtain ⟨L, hL⟩ : ∃ L, L = x.l.length := ⟨_, rfl⟩
  rw [← hL] at hlen
  have HL := Lib.hid hL
  have n0 : (0 : Int) ≤ (L : Int) := by omega
  clear hs hok hdr hop hL
  by_cases hlt : L < N
  · have z : (L : Int) < (N : Int) := by omega
    have z4 : decide (N ≤ L) = false := decide_eq_false (by omega)
    have z5 : ¬ N ≤ L := by omega
    have HF := Lib.hid (show RmE B o c p d np N x w (.returned (.tuple #[])) w.drew from by
      have ht : x.takeE N = 0 ∧ x.takeP N = x := by unfold P.Po.takeE P.Po.takeP; rw [← HL.out]; simp [hlt]
      refine ⟨?_, .inl ⟨ht.1, rfl⟩⟩
      rw [ht.2]
      exact H.out.self HDR.out)
    go_enter Tryz.func42, Tryz.ntmps42
    go_wp2_with fail
    refine wp_region_still_tail 14 (by kernel_rfl) (by kernel_rfl) ?_
    simp only [List.take_succ_cons, List.take_zero, List.drop_succ_cons, List.drop_zero]
    iterate 4 still_step
    refine wpStill_val rfl _ (x_len rfl _ _ rfl (hlen _)) ?_
    repeat still_step
    refine wpStill_nil ?_
    change wpList _ _ _ _ _ w.drew
    clear hlen g
    go_wp2
    go_end0
    exact HF.out
  · have z : (N : Int) ≤ (L : Int) := by omega
    have z4 : decide (N ≤ L) = true := decide_eq_true (by omega)
    have z5 : N ≤ L := by omega
    have z2 : ¬ (L : Int) < (N : Int) := by omega
    have HT := Lib.hid (show x.takeE N = x.oneE ∧ x.takeP N = x.oneP from by unfold P.Po.takeE P.Po.takeP; rw [← HL.out]; simp [hlt])
    go_enter Tryz.func42, Tryz.ntmps42
    go_wp2_with fail
    refine wp_region_still_tail 12 (by kernel_rfl) (by kernel_rfl) ?_
    simp only [List.take_succ_cons, List.take_zero, List.drop_succ_cons, List.drop_zero]
    iterate 4 still_step
    refine wpStill_val rfl _ (x_len rfl _ _ rfl (hlen _)) ?_
    repeat still_step
    refine wpStill_nil ?_
    change wpList _ _ _ _ _ w.drew
    clear hlen g
    go_wp2_with fail
    refine HLV.out.mono ?_
    have hTX : TyX (fun k => k = o) B poT w w.drew := (Ty.of_below HDR.out).x
    rintro e w1 (⟨h6, rfl, hb⟩ | ⟨h0, rfl, hP⟩ | ⟨h7, rfl, hP⟩)
    · have HF := Lib.hid (show RmE B o c p d np N x w (panE 6) w1 from by
        refine ⟨?_, .inr ⟨by rw [HT.out.1, h6]; decide, by rw [HT.out.1, h6]⟩⟩
        rw [HT.out.2, oneE_none h6]
        exact H.out.self (below_then HDR.out hb HDR.out.size))
      clear h6 hb hTX
      go_wp2
      exact ⟨rfl, HF.out⟩
    · have HF := Lib.hid (show RmE B o c p d np N x w (.returned (.tuple #[])) w1 from by
        refine ⟨?_, .inl ⟨by rw [HT.out.1, h0], rfl⟩⟩
        rw [HT.out.2]
        exact PoV.then (.inl rfl) hTX hP)
      clear h0 hP hTX
      go_wp2
      go_end0
      exact HF.out
    · have HF := Lib.hid (show RmE B o c p d np N x w (panE 7) w1 from by
        refine ⟨?_, .inr ⟨by rw [HT.out.1, h7]; decide, by rw [HT.out.1, h7]⟩⟩
        rw [HT.out.2]
        exact PoV.then (.inl rfl) hTX hP)
      clear h7 hP hTX
      go_wp2
      exact ⟨rfl, HF.out⟩
end Go.Proofs.YtocepcibcapfbaaGreat
/- The pool: tries. -/
namespace Go.Proofs.YtocepcibcapfbaaGreat
set_option linter.unusedVariables false
set_option linter.unusedSimpArgs false
set_option linter.unusedSectionVars false
open Go.RowKit
variable [Inhabited AvT]

theorem tries1_idle (p : Addr) (w : World) :
    CallsD Tryz.prog 73 #[.pointer (some p)] .returning w fun e u' w' => e = .returned (.tuple #[]) ∧ u' = .returning ∧ w' = w := by
  refine callsD_of_wpS Tryz.func73 rfl fun c₀ cs hu => ?_
  apply wpS_seq
  apply wpS_region
  simp [wpOpsS, go_sem, recoverD, hu, Tryz.ntmps73, Exit.thenS]
  apply wpS_seq
  apply wpS_region
  simp [wpOpsS, go_sem, Exit.thenS]
  refine wpS_cond (t := false) (by simp [Act.eval, Array.replicate]) ?_
  simp only [Bool.false_eq_true, if_false]
  refine wpS_of_wp (wp_skip ?_)
  cases c₀
  simp_all [bodyPostS, results, Tryz.results73]
set_option maxRecDepth 100000 in
theorem tap_errno (k : Int) (w : World) : (Instr.typeAssert (.iface 26 (.int .i64 k)) 20 26 true).run Tryz.prog w = .ok (.tuple #[.int .i64 k, .bool true]) w := by
  simp [Instr.typeAssert, run_underlying Tryz.underlying26, go_sem, Result.andThen]
set_option maxRecDepth 100000 in
set_option maxHeartbeats 1600000 in
theorem tries1_catch (g : Nat) (k x : Int) (older : List PanicEntry) (w : World) (hc : w.cell? ⟨g, 0, none⟩ = some (.int .i64 x)) (hz : w.frozen? ⟨g, 0, none⟩ = false) :
    CallsD Tryz.prog 73 #[.pointer (some ⟨g, 0, none⟩)] (.panicking ({ v := .iface 26 (.int .i64 k), recovered := false } :: older)) w fun e u' w' =>
      e = .returned (.tuple #[]) ∧ u' = .panicking ({ v := .iface 26 (.int .i64 k), recovered := true } :: older) ∧ w' = w.setCell ⟨g, 0, none⟩ (.int .i64 k) := by
  have hta := tap_errno k
  refine callsD_of_wpS Tryz.func73 rfl fun c₀ cs hu => ?_
  apply wpS_seq
  apply wpS_region
  simp [wpOpsS, go_sem, recoverD, hu, Tryz.ntmps73, Exit.thenS]
  apply wpS_seq
  apply wpS_region
  simp [wpOpsS, go_sem, Exit.thenS]
  refine wpS_cond (t := true) (by simp [Act.eval, Array.replicate]) ?_
  simp only [if_true]
  apply wpS_seq
  apply wpS_region
  simp [wpOpsS, go_sem, hta, Exit.thenS]
  apply wpS_seq
  apply wpS_seq
  apply wpS_region
  simp [wpOpsS, go_sem, Exit.thenS]
  refine wpS_cond (t := false) (by simp [Act.eval, Array.replicate]) ?_
  simp only [Bool.false_eq_true, if_false]
  refine wpS_of_wp (wp_skip ?_)
  simp only [Exit.thenS]
  apply wpS_region
  simp [wpOpsS, go_sem, hc, hz, bodyPostS, results, Tryz.results73]
/-- How tries ends: what was done ended with the error k. -/
def TrE (R : Int → World → Prop) (w : World) (e : Ending) (w' : World) : Prop := ∃ k w2, e = .returned (.int .i64 k) ∧ R k w2 ∧ w2.heap[w.heap.size]? = some (.cells #[.int .i64 0] 26 (0, 0)) ∧ w' = w2.setCell ⟨w.heap.size, 0, none⟩ (.int .i64 k)
set_option maxRecDepth 100000 in
set_option maxHeartbeats 3200000 in
theorem tries_any (p : Nat) (fd : FuncId) (caps : Array Value) (R : Int → World → Prop) (w : World) (hm : ∀ W, Below w.heap.size w W → Calls Tryz.prog 54 #[.pointer (some ⟨p, 0, none⟩)] W fun e w' => e = .returned (.bool true) ∧ W = w')
    (hen : ∀ args w, (callFunc fd args).run Tryz.prog w = .ok (.enter fd args) w)
    (hdo : Calls Tryz.prog fd caps (w.alloc (.cells #[.int .i64 0] 26)) fun e w2 => w2.heap[w.heap.size]? = some (.cells #[.int .i64 0] 26 (0, 0)) ∧ ((e = .returned (.tuple #[]) ∧ R 0 w2) ∨ ∃ k, e = panE k ∧ R k w2)) :
    Calls Tryz.prog 39 #[.pointer (some ⟨p, 0, none⟩), .func (.func fd) #[] caps] w (TrE R w) := by
  have hmf : ∀ (fn : Fn) (first cap : Array Value) (w : World), (Instr.makeFunc fn first cap).run Tryz.prog w = .ok (.func fn first cap) w := fun _ _ _ _ => rfl
  obtain ⟨w0, hw0⟩ : ∃ w0, w0 = w.alloc (.cells #[.int .i64 0] 26) := ⟨_, rfl⟩
  have hb0 : Below w.heap.size w w0 := by rw [hw0]; exact (Below.refl _ w).alloc (Nat.le_refl _) _
  rw [← hw0] at hdo
  have HM := Lib.hid (hm w0 hb0)
  have HEN := Lib.hid hen
  have HDO := Lib.hid hdo
  clear hm hen hdo hb0
  go_enter_defers Tryz.func39, Tryz.ntmps39
  go_wp2_with fail
  rw [← hw0]
  clear hw0
  refine HM.out.mono ?_
  rintro e w1 ⟨rfl, rfl⟩
  go_wp2_with fail
  rw [HEN.out, Oper.upon_enter]
  refine HDO.out.mono ?_
  rintro e w2 ⟨kb, ⟨rfl, hR⟩ | ⟨k, rfl, hR⟩⟩
  · have gb := cell_blk kb
    have fb := free_blk kb
    have hcz := cell_blk (blk_setCell kb 0 (.int .i64 0))
    have HF := Lib.hid (show TrE R w (.returned (.int .i64 0)) (w2.setCell ⟨w.heap.size, 0, none⟩ (.int .i64 0)) from ⟨0, w2, rfl, hR, kb, rfl⟩)
    clear hR kb
    go_wp2
    refine leaves_cons (f := 73) (args := #[.pointer (some ⟨w.heap.size, 0, none⟩)]) (by simp) (by simp [go_sem]) ?_
    refine (tries1_idle _ _).mono ?_
    rintro e u' w'' ⟨rfl, rfl, rfl⟩
    have HR := HF.out
    simp [Leaves, settle, results, Tryz.results39, go_sem, hcz]
    exact HR
  · refine leaves_cons (f := 73) (args := #[.pointer (some ⟨w.heap.size, 0, none⟩)]) (by simp) (by simp [go_sem]) ?_
    refine (tries1_catch w.heap.size k 0 [] _ (cell_blk kb 0) (free_blk kb 0)).mono ?_
    rintro e u' w'' ⟨rfl, rfl, rfl⟩
    have hcz := cell_blk (blk_setCell kb 0 (.int .i64 k))
    simp [Leaves, settle, results, Tryz.results39, go_sem, hcz]
    exact ⟨k, w2, rfl, hR, kb, rfl⟩
end Go.Proofs.YtocepcibcapfbaaGreat
