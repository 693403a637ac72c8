/- The pool: room. -/
import Derived.Test.YtocepcibcapfbaaJ33
namespace Go.Proofs.Ytocepcibcapfbaa
set_option linter.unusedVariables false
set_option linter.unusedSimpArgs false
open Go.RowKit
variable {B o c : Nat} {w : World} {p d np N : Nat} {x : P.Po}

/-- How room ends. -/
def RmE (B o c : Nat) (p d np N : Nat) (x : P.Po) (w : World) (e : Ending) (w' : World) : Prop :=
  PoV B o c w p d np N (x.takeP N) w' ∧ ((x.takeE N = 0 ∧ e = .returned (.tuple #[])) ∨ (x.takeE N ≠ 0 ∧ e = panE (x.takeE N)))
theorem oneE_none {x : P.Po} (h : x.oneE = 6) : x.oneP = x := by
  unfold P.Po.oneE at h
  unfold P.Po.oneP
  rcases hv : P.victim x.l with _ | f
  · rfl
  · rw [hv] at h
    simp only at h
    split at h
    · rcases wrE_cases x.d with e | e <;> omega
    · omega
set_option maxRecDepth 100000 in
set_option maxHeartbeats 3200000 in
theorem proom_any (h : PoIs B o c w p d np N x) (hop : x.d.ops < 1000000) : Calls Try.prog 27 #[.pointer (some ⟨p, 0, none⟩)] w (RmE B o c p d np N x w) := by
  have hdr : Below w.heap.size w w.drew := below_of_drew (Below.refl _ _)
  have HLV := Lib.hid (pleave_any (h.below hdr) hop)
  have HDR := Lib.hid hdr
  have H := Lib.hid h
  obtain ⟨⟨mb, n, F, vo, V, hs⟩, hok⟩ := h
  have hlen : ∀ ty, (Builtin.len_ #[51] ty #[.map (some mb)]).run Try.prog { w with drawn := w.drawn + 1 } = .ok (.int .i64 (x.l.length : Int)) { w with drawn := w.drawn + 1 } := fun ty => by
    have h2 := (hs.below hdr).map.len (x.l.map (·.pg)) hok.1 (fun k hk => by
      rw [hs.look k]
      by_cases h0 : 0 ≤ k
      · rw [if_pos h0, Option.isSome_map, P.at_isSome]
        simp [h0]
      · rw [if_neg h0]
        simp [h0]) (fun k hk => by have := hs.big.2.2.1 k hk; have := hs.big.2.2.2.2; omega) ty
    rw [List.length_map] at h2
    exact h2
  have g := cell_blk hs.pool
  unfold poolC at g
  have hN := hs.big.2.1
  obtain ⟨L, hL⟩ : ∃ L, L = x.l.length := ⟨_, rfl⟩
  rw [← hL] at hlen
  have HL := Lib.hid hL
  have n0 : (0 : Int) ≤ (L : Int) := by omega
  clear hs hok hdr hop hL
  by_cases hlt : L < N
  · have z : (L : Int) < (N : Int) := by omega
    have z4 : decide (N ≤ L) = false := decide_eq_false (by omega)
    have z5 : ¬ N ≤ L := by omega
    have HF := Lib.hid (show RmE B o c p d np N x w (.returned (.tuple #[])) w.drew from by
      have ht : x.takeE N = 0 ∧ x.takeP N = x := by unfold P.Po.takeE P.Po.takeP; rw [← HL.out]; simp [hlt]
      refine ⟨?_, .inl ⟨ht.1, rfl⟩⟩
      rw [ht.2]
      exact H.out.self HDR.out)
    go_enter Try.func27, Try.ntmps27
    go_wp2_with fail
    refine wp_region_still_tail 14 (by kernel_rfl) (by kernel_rfl) ?_
    simp only [List.take_succ_cons, List.take_zero, List.drop_succ_cons, List.drop_zero]
    iterate 4 still_step
    refine wpStill_val rfl _ (x_len rfl _ _ rfl (hlen _)) ?_
    repeat still_step
    refine wpStill_nil ?_
    change wpList _ _ _ _ _ w.drew
    clear hlen g
    go_wp2
    go_end0
    exact HF.out
  · have z : (N : Int) ≤ (L : Int) := by omega
    have z4 : decide (N ≤ L) = true := decide_eq_true (by omega)
    have z5 : N ≤ L := by omega
    have z2 : ¬ (L : Int) < (N : Int) := by omega
    have HT := Lib.hid (show x.takeE N = x.oneE ∧ x.takeP N = x.oneP from by unfold P.Po.takeE P.Po.takeP; rw [← HL.out]; simp [hlt])
    go_enter Try.func27, Try.ntmps27
    go_wp2_with fail
    refine wp_region_still_tail 12 (by kernel_rfl) (by kernel_rfl) ?_
    simp only [List.take_succ_cons, List.take_zero, List.drop_succ_cons, List.drop_zero]
    iterate 4 still_step
    refine wpStill_val rfl _ (x_len rfl _ _ rfl (hlen _)) ?_
    repeat still_step
    refine wpStill_nil ?_
    change wpList _ _ _ _ _ w.drew
    clear hlen g
    go_wp2_with fail
    refine HLV.out.mono ?_
    have hTX : TyX (fun k => k = o) B poT w w.drew := (Ty.of_below HDR.out).x
    rintro e w1 (⟨h6, rfl, hb⟩ | ⟨h0, rfl, hP⟩ | ⟨h7, rfl, hP⟩)
    · have HF := Lib.hid (show RmE B o c p d np N x w (panE 6) w1 from by
        refine ⟨?_, .inr ⟨by rw [HT.out.1, h6]; decide, by rw [HT.out.1, h6]⟩⟩
        rw [HT.out.2, oneE_none h6]
        exact H.out.self (below_then HDR.out hb HDR.out.size))
      clear h6 hb hTX
      go_wp2
      exact ⟨rfl, HF.out⟩
    · have HF := Lib.hid (show RmE B o c p d np N x w (.returned (.tuple #[])) w1 from by
        refine ⟨?_, .inl ⟨by rw [HT.out.1, h0], rfl⟩⟩
        rw [HT.out.2]
        exact PoV.then (.inl rfl) hTX hP)
      clear h0 hP hTX
      go_wp2
      go_end0
      exact HF.out
    · have HF := Lib.hid (show RmE B o c p d np N x w (panE 7) w1 from by
        refine ⟨?_, .inr ⟨by rw [HT.out.1, h7]; decide, by rw [HT.out.1, h7]⟩⟩
        rw [HT.out.2]
        exact PoV.then (.inl rfl) hTX hP)
      clear h7 hP hTX
      go_wp2
      exact ⟨rfl, HF.out⟩
end Go.Proofs.Ytocepcibcapfbaa
