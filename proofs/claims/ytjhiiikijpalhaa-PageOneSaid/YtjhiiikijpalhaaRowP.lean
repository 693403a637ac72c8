/- Arguments that came in: a page. -/
import Derived.Test.YtjhiiikijpalhaaRow
namespace Go.Proofs.Ytjhiiikijpalhaa
set_option linter.unusedVariables false
set_option linter.unusedSimpArgs false
open Go.ChangeShapes Go.WideShapes Go.ChangeAt Go.RowKit

theorem open_bytes_cs {H : Type} {enc : TypeId × Value → H} {W : World} {base : Nat} {hd : Bool} {fuel : Nat} {cs : List Value} {x : DataW H × List MemPlace}
    (hf : DataW.trod enc Try.prog W base (fun _ => true) hd fuel 22 cs = some x) : ∃ a len cap l, cs = [.slice a len cap] ∧ Rd W a len l ∧ len ≤ cap := by
  rcases open_ints Try.underlying22 Try.underlying5 (by kernel_rfl) hf with ⟨hcs, _⟩ | ⟨y, l, c, zs, hcs, _, hl, hm, hz, _, hcell, hwz⟩
  · exact ⟨none, 0, 0, [], hcs, Rd.nil _ _, Nat.le_refl _⟩
  · have h : DataW.Trod enc Try.prog W base (fun _ => true) hd 22 (.slice (some y) l c) x.1 x.2 := ⟨fuel, by rw [show (Value.slice (some y) l c).cells.toList = cs by rw [hcs]; rfl]; exact hf⟩
    obtain ⟨b, hr, hc⟩ := open_bytes h
    exact ⟨_, _, _, b, hcs, hr, hc⟩

theorem open_page {H : Type} {enc : TypeId × Value → H} {W : World} {base b0 : Nat} {hd : Bool} {v : Value} {d : DataW H} {p : List MemPlace}
    (hval : Value.okWide Try.prog W .any b0 40 v) (h : DataW.Trod enc Try.prog W base (fun _ => true) hd 40 v d p) :
    ∃ k l c a len cap b, v = .agg #[.int .i64 k, .int .i64 l, .int .i64 c, .slice a len cap] ∧ (Lit.int .i64 k).wf = true ∧ (Lit.int .i64 l).wf = true ∧ (Lit.int .i64 c).wf = true ∧ Rd W a len b ∧ len ≤ cap := by
  obtain ⟨c0, c1, c2, c3, y0, y1, y2, y3, m, rfl, rfl, rfl, hy0, hy1, hy2, hy3⟩ := Go.Joins.open_agg4 Try.underlying40 (by kernel_rfl) (by kernel_rfl : Try.prog.cellsOf 40 = 4) hval h
  obtain ⟨x0, e0, rfl, w0⟩ := DataW.trod_int Try.underlying3 hy0
  obtain ⟨x1, e1, rfl, w1⟩ := DataW.trod_int Try.underlying3 hy1
  obtain ⟨x2, e2, rfl, w2⟩ := DataW.trod_int Try.underlying3 hy2
  obtain ⟨a, len, cap, b, e3, hr, hc⟩ := open_bytes_cs hy3
  simp at e0 e1 e2 e3
  subst e0 e1 e2 e3
  exact ⟨x0, x1, x2, a, len, cap, b, rfl, w0, w1, w2, hr, hc⟩
end Go.Proofs.Ytjhiiikijpalhaa
