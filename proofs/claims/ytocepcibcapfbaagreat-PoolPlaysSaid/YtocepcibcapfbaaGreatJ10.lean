/- The device: op, whatever it does, where it is not dead and does not die. -/
import Derived.Test.YtocepcibcapfbaaGreatJ08
import Derived.Test.YtocepcibcapfbaaGreatJ09
import Derived.Deep.DeepCutAuto
namespace Go.Proofs.YtocepcibcapfbaaGreat
set_option linter.unusedVariables false
set_option linter.unusedSimpArgs false
set_option linter.unusedSectionVars false
open Go.RowKit
variable [Inhabited AvT]

/-- The device's own block was turned. -/
theorem DvIs.re {B : Nat} {w w' : World} {d np : Nat} {x x' : P.Dv} (h : DvIs B w d np x) {vl : Value} {gn cn : Nat} {vw : Value} {ao : Option Addr} {no co : Nat} {fz : Int} (h1 : w.heap[d]? = some (.cells (dvF vl gn np cn vw ao no co fz x.dead x.ops) 85 (0, 0)))
    (hw : Chg (fun j => j = d) w w') {ao' : Option Addr} {no' co' : Nat} {fz' : Int} (h1' : w'.heap[d]? = some (.cells (dvF vl gn np cn vw ao' no' co' fz' x'.dead x'.ops) 85 (0, 0))) (himg : x'.img = x.img ∧ x'.sure = x.sure ∧ x'.log = x.log) (hrd : Rd w ao' no' x'.outs) (hco : no' ≤ co' ∧ co' ≤ maxLen)
    (htag : TagB w no' ao') (hops : x.ops ≤ x'.ops ∧ x'.ops ≤ 1000000) (hf : x'.fuse = max fz' (-1)) (hfz : -9223372036854775808 ≤ fz' ∧ fz' ≤ 9223372036854775807) : DvIs B w' d np x' ∧ Ty B devT w w' := by
  have ht : Ty B devT w w' := ⟨hw.os, hw.tape, hw.output, hw.size, fun k hk => by
    by_cases e : k = d
    · rw [e, tagA_cells h1', tagA_cells h1]
    · exact tagA_eq (hw.block k hk e), fun k hk hn => hw.block k hk (fun e => by
    rw [e] at hn
    exact hn h.tag.2 _ h.tag.1 (.inl rfl))⟩
  refine ⟨?_, ht⟩
  obtain ⟨vl0, gn0, cn0, vw0, ao0, no0, co0, fz0, nw, lw, Cn, k1, k2, k3, k4, k5, k6, k7, k8, k9, k10, k11, k12, k13⟩ := h
  have ee := h1.symm.trans k1
  unfold dvF at ee
  simp at ee
  obtain ⟨rfl, ⟨rfl, rfl⟩, rfl, ⟨rfl, rfl, rfl⟩, rfl⟩ := ee
  have hgd : gn ≠ d := fun e => by rw [e, k1] at k3; simp at k3
  have hne : ∀ {c : Array Value} {t : TypeId} {fr : Nat × Nat} {k : Nat}, w.heap[k]? = some (.cells c t fr) → t ≠ 85 → k ≠ d := fun hk ht e => by rw [e, k1] at hk; simp at hk; exact ht hk.2.1.symm
  refine ⟨vl, gn, cn, vw, ao', no', co', fz', nw, lw, Cn, h1', k2, (hw.block gn (lt_of_block k3) hgd).trans k3, ?_, k5, ?_, hco, htag.ty ht, ?_, by omega, k11, hops.2, hf, hfz⟩
  · rw [himg.1]
    exact RV.chg k4 hw (fun p e hp => by cases e; exact hgd hp)
  · by_cases h0 : 0 < no'
    · exact hrd.chg hw (fun p e hp => by
        have := (htag.2 h0 p e).1
        rw [hp, tagA_cells h1] at this
        simp at this)
    · have : no' = 0 := by omega
      subst this
      have : x'.outs = [] := List.eq_nil_of_length_eq_zero hrd.1
      rw [this]
      exact Rd.nil _ _
  · obtain ⟨k9, e9, gl, cl, Cl, l1, l2, l3, l4, l5⟩ := k9
    have hld : gl ≠ d := hne l3 (by decide)
    refine ⟨?_, by rw [himg.2.2]; exact e9, gl, cl, Cl, l1, l2, (hw.block gl (lt_of_block l3) hld).trans l3, by rw [himg.2.1]; exact RV.chg l4 hw (fun p e hp => by cases e; exact hld hp), l5⟩
    rcases k9.2 with ⟨rfl, e⟩ | ⟨g, cap, cur, rfl, hb, hg, r⟩
    · exact ⟨k9.1, .inl ⟨rfl, e⟩⟩
    · exact ⟨k9.1, .inr ⟨g, cap, cur, rfl, hb, (hw.block g (lt_of_block hg) (hne hg (by decide))).trans hg, r⟩⟩
/-- How op ends where it calls what is to be done. -/
def OpC (B d np : Nat) (x : P.Dv) (R : World → Ending → World → Prop) (w : World) (e : Ending) (w' : World) : Prop :=
  ∃ wx w1 k, Ty B devT w wx ∧ DvIs B wx d np x.op ∧ R wx (.returned (.int .i64 k)) w1 ∧ e = .returned (.int .i64 k) ∧ Ty w.heap.size (fun t => t = some 26) w1 w' ∧ w.heap.size ≤ wx.heap.size
end Go.Proofs.YtocepcibcapfbaaGreat
