/- Maps from integers to values, as functions. -/
import Derived.Test.YtocepcibcapfbaaGreatJ02
import Derived.Maps.OwnSet
import Derived.Maps.Views
namespace Go.Proofs.YtocepcibcapfbaaGreat
set_option linter.unusedVariables false
set_option linter.unusedSimpArgs false
open Go.RowKit Go.Maps

def mhv : Value → Option (DataW Value × List MemPlace) := fun v => some (.held v, [])
/-- A map type: its key's kind, its element and that one's zero. -/
structure MpT (mt kt et : TypeId) (q : IntKind) (z : Value) : Prop where
  key : Tryz.prog.underlying kt = some (.int q)
  und : Tryz.prog.underlying mt = some (.map kt et)
  zero : ∀ w : World, (zeroValue et).run Tryz.prog w = .ok z w
def mkl (q : IntKind) (k : Int) : Lit := .int q k
def mupd (V : Int → Option Value) (k : Int) (x : Option Value) : Int → Option Value := fun j => if j = k then x else V j
def MSays (q : IntKind) (D : DataW Value) (k : Int) : Option Value → Prop
  | none => has D (mkl q k) = false ∧ ∀ z, D.atKey (mkl q k) z = z
  | some v => has D (mkl q k) = true ∧ ∀ z, D.atKey (mkl q k) z = .held v
/-- Block b is a map, of at most n entries, that has V. -/
def Mp (kt : TypeId) (q : IntKind) (w : World) (b n : Nat) (V : Int → Option Value) : Prop := ∃ D : DataW Value, w.ownsMap Tryz.prog kt mhv b n D ∧ ∀ k, (mkl q k).wf = true → MSays q D k (V k)
section
variable {mt kt et : TypeId} {q : IntKind} {z : Value}
theorem mkl_ne {j k : Int} (h : j ≠ k) : mkl q j ≠ mkl q k := by
  unfold mkl
  intro e
  injection e with e1 e2
  exact h e2
theorem Mp.drop (T : MpT mt kt et q z) {w : World} {b n : Nat} {V : Int → Option Value} (h : Mp kt q w b n V) (k : Int) (hk : (mkl q k).wf = true) (ty : TypeId) :
    ∃ w', (Builtin.delete_ #[mt, kt] ty #[.map (some b), .int q k]).run Tryz.prog w = .ok (.tuple #[]) w' ∧ Mp kt q w' b n (mupd V k none) ∧ w.grownBy w' (some b) := by
  obtain ⟨D, h, hs⟩ := h
  obtain ⟨w', h1, h2, h3⟩ := h.drop (int_keyed T.key) T.und (keyOf_int_mk T.key hk) ty
  refine ⟨w', h1, ⟨D.del (mkl q k), h2, fun j hj => ?_⟩, h3.grown⟩
  unfold mupd
  by_cases he : j = k
  · subst he
    rw [if_pos rfl]
    exact ⟨has_del_same, fun z => atKey_del_same z⟩
  · rw [if_neg he]
    have hj2 := hs j hj
    rcases hV : V j with _ | x
    · rw [hV] at hj2
      exact ⟨by rw [has_del_other (mkl_ne he)]; exact hj2.1, fun z => by rw [atKey_del_other (mkl_ne he)]; exact hj2.2 z⟩
    · rw [hV] at hj2
      exact ⟨by rw [has_del_other (mkl_ne he)]; exact hj2.1, fun z => by rw [atKey_del_other (mkl_ne he)]; exact hj2.2 z⟩
end
end Go.Proofs.YtocepcibcapfbaaGreat
