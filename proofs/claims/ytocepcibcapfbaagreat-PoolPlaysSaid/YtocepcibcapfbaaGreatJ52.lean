/- Law 9: the pool and the document's, side by side. -/
import Derived.Test.YtocepcibcapfbaaGreatJ50
import Derived.Test.YtocepcibcapfbaaGreatJ23
import Derived.Test.YtocepcibcapfbaaGreatJ51
namespace Go.Proofs.YtocepcibcapfbaaGreat
set_option linter.unusedVariables false
set_option linter.unusedSimpArgs false
set_option linter.unusedSectionVars false
open Go.RowKit

section
variable [Inhabited AvT] {B c : Nat} {w0 w w' : World} {p d q m np N : Nat} {x x' y y' : P.Po}
theorem PoG.rf (hG : PoG B c w0 w p d np N x' w') (hR : RfP B w q m np N y) : RfP B w' q m np N y := hR.ty hG.kinds (by unfold NoRp NoRf pgT poT devT; decide)
theorem PoL.rf (h : PoL B c w0 w p d np N x) (hT : Ty B rpT w w') : PoL B c w0 w' p d np N x := by
  obtain ⟨h1, o, h2⟩ := h
  have hi := h2.hi
  obtain ⟨⟨mb, n, F, vo, V, hs⟩, hok⟩ := h2
  exact ⟨h1.trans (hT.base hi), o, ⟨mb, n, F, vo, V, hs.ty hT (by unfold NoPo NoDev rpT rfT; decide)⟩, hok⟩
theorem PoL.mono2 {c' : Nat} (h : PoL B c w0 w p d np N x) (hc : c ≤ c') (hb : c' ≤ 1000000) : PoL B c' w0 w p d np N x := by
  obtain ⟨h1, o, ⟨mb, n, F, vo, V, hs⟩, hok⟩ := h
  exact ⟨h1, o, ⟨mb, n, F, vo, V, hs.mono hc hb⟩, hok⟩
theorem PoL.pins (h : PoL B c w0 w p d np N x) : ∀ f ∈ x.l, f.pins ≤ c := by
  obtain ⟨h1, o, ⟨mb, n, F, vo, V, hs⟩, hok⟩ := h
  intro f hf
  exact (hs.fr f.pg f (P.at_mem hok.1 hf)).2.2.2
theorem PoL.ok (h : PoL B c w0 w p d np N x) : x.ok N np := by
  obtain ⟨h1, o, h2⟩ := h
  exact h2.2
/-- The device alone was turned. -/
theorem PoL.dev {xd' : P.Dv} (h : PoL B c w0 w p d np N x) (hd : DvIs B w' d np xd') (hT : Ty B devT w w') (himg : xd'.img = x.d.img) : PoG B c w0 w p d np N ⟨xd', x.l⟩ w' := by
  obtain ⟨h1, o, h2⟩ := h
  have hi := h2.hi
  obtain ⟨⟨mb, n, F, vo, V, hs⟩, hok⟩ := h2
  refine ⟨⟨h1.trans (hT.base hi), o, ⟨mb, n, F, vo, V, hs.devd hT hd⟩, ⟨hok.1, hok.2.1, hok.2.2.1, by rw [himg]; exact hok.2.2.2⟩⟩, hT.size, fun a n b hr => hr.ty hT (by unfold devT; decide), hT.mono (Nat.le_refl _) (fun _ h => .inl (.inl h)), fun b C t hk h1 _ _ => hT.cells hk (.inr (fun e => h1 (.inl e)))⟩
theorem PoL.dvis (h : PoL B c w0 w p d np N x) : DvIs B w d np x.d ∧ B ≤ w.heap.size := by
  obtain ⟨h1, o, h2⟩ := h
  have hi := h2.hi
  obtain ⟨⟨mb, n, F, vo, V, hs⟩, hok⟩ := h2
  exact ⟨hs.dev, hi⟩
theorem lfuse (h : PoL B c w0 w p d np N x) (n : Int) (hn : inI n) : Calls Tryz.prog 25 #[.pointer (some ⟨d, 0, none⟩), .int .i64 n] w fun e w' => e = .returned (.tuple #[]) ∧ PoG B c w0 w p d np N ⟨if x.d.dead = true then x.d else { x.d with fuse := max n (-1) }, x.l⟩ w' := by
  refine (dffuse_any B d np x.d n w h.dvis.1 hn).mono ?_
  rintro e w' ⟨rfl, hD, hT⟩
  exact ⟨rfl, h.dev hD hT (by split <;> rfl)⟩
theorem loutc (h : PoL B c w0 w p d np N x) (a : Option Addr) (n cp : Nat) (l : List UInt8) (hr : Rd w a n l) (hn : x.d.outs.length + n ≤ 1000000) : Calls Tryz.prog 24 #[.pointer (some ⟨d, 0, none⟩), .slice a n cp] w fun e w' => e = .returned (.tuple #[]) ∧ PoG B c w0 w p d np N ⟨{ x.d with outs := x.d.outs ++ l }, x.l⟩ w' := by
  refine (dfoutc_any B d np x.d l a n cp w h.dvis.1 h.dvis.2 hr hn).mono ?_
  rintro e w' ⟨rfl, hD, hT⟩
  exact ⟨rfl, h.dev hD hT rfl⟩
theorem lops (h : PoL B c w0 w p d np N x) : Calls Tryz.prog 34 #[.pointer (some ⟨d, 0, none⟩)] w fun e w' => e = .returned (.int .i64 (x.d.ops : Int)) ∧ Below w.heap.size w w' := (dfops_any B d np x.d w h.dvis.1).mono (fun e w' h => ⟨h.1, below_of_eq h.2⟩)
theorem limage (h : PoL B c w0 w p d np N x) : Calls Tryz.prog 35 #[.pointer (some ⟨d, 0, none⟩)] w fun e w' => ∃ a n cp, e = .returned (.slice a n cp) ∧ Rd w' a n x.d.img ∧ Below w.heap.size w w' := by
  refine (dfimage_any B d np x.d w h.dvis.1).mono ?_
  rintro e w' ⟨v, rfl, ho, hb⟩
  obtain ⟨a, cp, rfl, hr, -⟩ := ho.form
  exact ⟨a, _, cp, rfl, hr, hb⟩
theorem RfP.avs (h : RfP B w q m np N y) : ∀ k, av k → k < w.heap.size := h.1.avs
theorem rarmx (h : RfP B w q m np N y) (n : Int) (hn : inI n) : Calls Tryz.prog 26 #[.pointer (some ⟨m, 0, none⟩), .int .i64 n] w fun e w' => e = .returned (.tuple #[]) ∧ RfV B q m np N ⟨if y.d.dead = true then y.d else { y.d with fuse := max n (-1) }, y.l⟩ w w' := by
  obtain ⟨hD, ⟨L, vl, hL, hx⟩, hok, hN⟩ := h
  refine (rarm_any hD n hn).mono ?_
  rintro e w' ⟨rfl, hD', hT⟩
  have himg : (if y.d.dead = true then y.d else { y.d with fuse := max n (-1) } : P.Dv).img = y.d.img := by split <;> rfl
  exact ⟨rfl, ⟨hD', ⟨L, vl, hL.devd hT, hx⟩, ⟨hok.1, hok.2.1, hok.2.2.1, by show (if y.d.dead = true then y.d else { y.d with fuse := max n (-1) } : P.Dv).img.length = _; rw [himg]; exact hok.2.2.2⟩, hN⟩, rf_rp hT⟩
theorem rimagex (h : RfP B w q m np N y) : Calls Tryz.prog 36 #[.pointer (some ⟨m, 0, none⟩)] w fun e w' => ∃ a n cp, e = .returned (.slice a n cp) ∧ Rd w' a n y.d.img ∧ Below w.heap.size w w' := by
  refine (rimage_any h.1).mono ?_
  rintro e w' ⟨v, rfl, ho, hb⟩
  obtain ⟨a, cp, rfl, hr, -⟩ := ho.form
  exact ⟨a, _, cp, rfl, hr, hb⟩
theorem RfP.opsC (h : RfP B w q m np N y) : w.cell? ⟨m, 5, none⟩ = some (.int .i64 (y.d.ops : Int)) ∧ m < w.heap.size := by
  obtain ⟨⟨vs, gn, cn, vw, ao, no, co, ns, ls, Cn, hS⟩, -⟩ := h
  exact ⟨cell_blk hS.dev 5, lt_of_block hS.dev⟩
end
/-- The pool and the document's, behind i deeds. -/
def PlS (w0 : World) (p d q m N i : Nat) (w : World) : Prop := ∃ (I : Inhabited AvT) (x : P.Po), @PoL I w0.heap.size i w0 w p d 20 N x ∧ @RfP I w0.heap.size w q m 20 N x ∧ x.d.ops ≤ 40 * i ∧ x.d.outs.length ≤ 100 * i
/-- The outcomes were appended to. -/
theorem PlS.outs {I : Inhabited AvT} {w0 w w6 : World} {p d q m N i : Nat} {x : P.Po} {l : List UInt8} {vs : Value} {gn cn : Nat} {vw : Value} {ao : Option Addr} {no co ns : Nat} {ls : List Value} {Cn : Array Value} {L : List (P.Fr × Value)} {vl v6 : Value}
    (hP : @PoL I w0.heap.size i w0 w p d 20 N ⟨{ x.d with outs := x.d.outs ++ l }, x.l⟩) (hS : @RdS I w0.heap.size w m 20 x.d vs gn cn vw ao no co ns ls Cn) (hL : @RfL I w0.heap.size w q m N L vl) (hx : L.map Prod.fst = x.l) (hok : x.ok N 20) (hN : 8 ≤ N ∧ N ≤ 4096) (hO : OutA I w0.heap.size (x.d.outs ++ l) w v6 w6) (h1 : x.d.ops ≤ 40 * i) (h2 : x.d.outs.length + l.length ≤ 100 * i) :
    ∃ a n cp, v6 = .slice a n cp ∧ w6.cell? ⟨m, 3, none⟩ = some (.slice ao no co) ∧ w6.frozen? ⟨m, 3, none⟩ = false ∧ PlS w0 p d q m N i (w6.setCell ⟨m, 3, none⟩ (.slice a n cp)) := by
  obtain ⟨I', a, n, cp, rfl, hA, hO', hT⟩ := hO
  obtain ⟨⟨k1, k2⟩, hD, t2⟩ := hA.rs hS a n cp (x.d.outs ++ l) hO'
  obtain ⟨hb, o, hpo⟩ := hP
  have hpo' := hA.po hpo
  have hhi : w0.heap.size ≤ w.heap.size := hb.size
  have hL' := hA.rl hL
  have hhi6 : w0.heap.size ≤ w6.heap.size := Nat.le_trans hhi hT.size
  refine ⟨a, n, cp, rfl, k1, k2, I', ⟨{ x.d with outs := x.d.outs ++ l }, x.l⟩, ⟨(hb.trans (hT.base hhi)).trans (t2.base hhi6), o, ?_⟩, ⟨hD, ⟨L, vl, ?_, hx⟩, ?_, hN⟩, h1, ?_⟩
  · obtain ⟨⟨mb, n, F, vo, V, hs⟩, hok⟩ := hpo'
    exact ⟨⟨mb, n, F, vo, V, @PoS.ty I' _ _ _ _ _ _ _ _ _ _ _ _ _ _ _ _ _ hs _ _ t2 (by unfold NoPo NoDev; decide)⟩, hok⟩
  · exact @RfL.ty I' _ _ _ _ _ _ _ _ _ _ hL' t2 (by decide) (by decide) (by decide)
  · exact ⟨hok.1, hok.2.1, hok.2.2.1, hok.2.2.2⟩
  · show (x.d.outs ++ l).length ≤ _
    rw [List.length_append]
    exact h2
end Go.Proofs.YtocepcibcapfbaaGreat
