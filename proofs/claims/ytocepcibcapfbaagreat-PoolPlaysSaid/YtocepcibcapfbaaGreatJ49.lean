/- Law 9: the blocks that are avoided are others. -/
import Derived.Test.YtocepcibcapfbaaGreatJ44
import Derived.Test.YtocepcibcapfbaaGreatJ48
namespace Go.Proofs.YtocepcibcapfbaaGreat
set_option linter.unusedVariables false
set_option linter.unusedSimpArgs false
set_option linter.unusedSectionVars false
open Go.RowKit

/-- Bytes were turned in blocks that are avoided, or other blocks are avoided from now on. -/
structure AvC (I I' : Inhabited AvT) (w w1 : World) : Prop where
  t : Ty 0 (fun t => t = some 5) w w1
  b : ∀ k, k < w.heap.size → ¬ @av I k → w1.heap[k]? = w.heap[k]? ∧ ¬ @av I' k
  s : ∀ k, @av I' k → k < w1.heap.size
variable {I I' : Inhabited AvT} {w w1 : World}
theorem AvC.rd (h : AvC I I' w w1) {a : Option Addr} {n : Nat} {b : List UInt8} (hr : Rd w a n b) (ht : 0 < n → ∀ p, a = some p → tagA w p.block = some (some 5) ∧ ¬ @av I p.block) :
    Rd w1 a n b ∧ (0 < n → ∀ p, a = some p → tagA w1 p.block = some (some 5) ∧ ¬ @av I' p.block) := by
  refine ⟨hr.of_cells fun p e i hi => ?_, fun h0 p e => ?_⟩
  · have h0 : 0 < n := by have := hr.1; omega
    obtain ⟨h1, h2⟩ := ht h0 p e
    refine World.cell?_of_block (w := w) ?_
    rw [add_block]
    exact (h.b _ (tagA_lt h1) h2).1
  · obtain ⟨h1, h2⟩ := ht h0 p e
    exact ⟨by rw [h.t.tag _ (tagA_lt h1)]; exact h1, (h.b _ (tagA_lt h1) h2).2⟩
theorem AvC.rb (h : AvC I I' w w1) {a : Option Addr} {n : Nat} {b : List UInt8} (hr : @RB I w a n b) : @RB I' w1 a n b := h.rd hr.1 hr.2
theorem AvC.dv (h : AvC I I' w w1) {B d np : Nat} {x : P.Dv} (hd : @DvIs I B w d np x) : @DvIs I' B w1 d np x := by
  obtain ⟨vl, gn, cn, vw, ao, no, co, fz, nw, lw, Cn, h1, h2, h3, h4, h5, h6, h7, h8, h9, h10, h11, h12, h13⟩ := hd
  obtain ⟨h9a, e9, gl, cl, Cl, k1, k2, k3, k4, k5⟩ := h9
  have hrd := h.rd h6 h8.2
  exact ⟨vl, gn, cn, vw, ao, no, co, fz, nw, lw, Cn, h.t.cells h1 (.inr (by decide)), h2, h.t.cells h3 (.inr (by decide)), h4.ty h.t (fun _ p e => .inr ⟨_, by cases e; exact tagA_cells h3, by decide⟩), h5, hrd.1, h7, ⟨h.s, hrd.2⟩,
    ⟨h9a.ty h.t (fun _ _ => .inr (by decide)), e9, gl, cl, Cl, k1, k2, h.t.cells k3 (.inr (by decide)), k4.ty h.t (fun _ p e => .inr ⟨_, by cases e; exact tagA_cells k3, by decide⟩), k5⟩, h10, h11, h12, h13⟩
theorem AvC.po (h : AvC I I' w w1) {B o c p d np N : Nat} {x : P.Po} (hp : @PoIs I B o c w p d np N x) : @PoIs I' B o c w1 p d np N x := by
  obtain ⟨⟨mb, n, F, vo, V, hs⟩, hok⟩ := hp
  obtain ⟨spool, slow, sdev, smap, scap, slook, sord, sown, sfr, sinj, sot, sbig⟩ := hs
  refine ⟨⟨mb, n, F, vo, V, ⟨h.t.cells spool (.inr (by decide)), slow, h.dv sdev, smap.kept (h.t.block _ smap.lt (fun _ t e => by rw [smap.tag] at e; cases e; decide)), scap, slook, sord.ty h.t (fun _ _ => .inr (by decide)), sown, fun n f e => ?_, sinj, ⟨sot.1.imp (fun e => by rw [h.t.tag _ (tagA_lt e)]; exact e) id, sot.2⟩, sbig⟩⟩, hok⟩
  obtain ⟨e1, ⟨a, m, c', k1, k2, k3⟩, e3⟩ := sfr n f e
  exact ⟨e1, ⟨a, m, c', h.t.cells k1 (.inr (by decide)), h.rb k2, k3⟩, e3⟩
theorem AvC.rl (h : AvC I I' w w1) {B q m N : Nat} {L : List (P.Fr × Value)} {vl : Value} (hl : @RfL I B w q m N L vl) : @RfL I' B w1 q m N L vl := by
  obtain ⟨l1, l2, l3, l4⟩ := hl
  refine ⟨h.t.cells l1 (.inr (by decide)), l2, l3.ty h.t (fun _ _ => .inr (by decide)), fun p hp => ?_⟩
  obtain ⟨a, n, c, e, hr⟩ := l4 p hp
  exact ⟨a, n, c, e, h.rb hr⟩
/-- The document's device: its outcomes are others. -/
theorem AvC.rs (h : AvC I I' w w1) {B m np : Nat} {x : P.Dv} {vs : Value} {gn cn : Nat} {vw : Value} {ao : Option Addr} {no co ns : Nat} {ls : List Value} {Cn : Array Value} (hs : @RdS I B w m np x vs gn cn vw ao no co ns ls Cn) (ao' : Option Addr) (no' co' : Nat) (outs : List UInt8)
    (ho : @OutV I' B w1 ao' no' co' outs) : (w1.cell? ⟨m, 3, none⟩ = some (.slice ao no co) ∧ w1.frozen? ⟨m, 3, none⟩ = false) ∧ @RfD I' B (w1.setCell ⟨m, 3, none⟩ (.slice ao' no' co')) m np { x with outs := outs } ∧ Ty B (fun t => t = some 58) w1 (w1.setCell ⟨m, 3, none⟩ (.slice ao' no' co')) := by
  obtain ⟨sdev, slow, snow, scap, spgs, ssince, sout, sbig, savs⟩ := hs
  have hd := h.t.cells sdev (.inr (by decide))
  have t2 : Ty B (fun t => t = some 58) w1 (w1.setCell ⟨m, 3, none⟩ (.slice ao' no' co')) := (Ty.refl _ _ _).setCell _ _ (.inr ⟨slow.1, _, tagA_cells hd, rfl⟩)
  refine ⟨⟨cell_blk hd 3, free_blk hd 3⟩, ⟨vs, gn, cn, vw, ao', no', co', ns, ls, Cn, by rw [blk_setCell hd]; rfl, slow, t2.cells (h.t.cells snow (.inr (by decide))) (.inr (by decide)), scap, fun i hi => ?_, (ssince.ty h.t (fun _ _ => .inr (by decide))).ty t2 (fun _ _ => .inr (by decide)), ho.ty t2 (by decide), sbig, fun k hk => Nat.lt_of_lt_of_le (h.s k hk) t2.size⟩, t2⟩
  obtain ⟨a, c, k1, k2⟩ := spgs i hi
  exact ⟨a, c, k1, @RB.ty I' _ _ _ _ _ _ _ (h.rb k2) t2 (by decide)⟩
end Go.Proofs.YtocepcibcapfbaaGreat
