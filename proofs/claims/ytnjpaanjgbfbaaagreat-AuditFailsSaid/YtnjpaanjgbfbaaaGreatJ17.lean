/- The walks of chapter 7: the fields, their gets and sets. -/
import Derived.Test.YtnjpaanjgbfbaaaGreatJ16
import Derived.Laws.EntriesVeiled
namespace Go.Proofs.YtnjpaanjgbfbaaaGreat
set_option linter.unusedVariables false
set_option linter.unusedSimpArgs false
open Go.RowKit

def getV (q : Addr) : Value := .func (.func 96) #[.agg #[.pointer (some q)]] #[]
def setV (q : Addr) : Value := .func (.func 97) #[.agg #[.pointer (some q)]] #[]
def fieldV (n : Int) (q : Addr) : Value := .agg #[.int .i64 n, getV q, setV q]
set_option maxRecDepth 100000 in
theorem one_any (n : Int) (q : Addr) (w : World) : Calls Tryz.prog 85 #[.int .i64 n, .pointer (some q)] w fun e w' => e = .returned (fieldV n q) ∧ Below w.heap.size w w' := by
  unfold fieldV getV setV
  go_enter Tryz.func85, Tryz.ntmps85
  go_wp2
  exact bodyPost_ret (v := .agg #[.int .i64 n, .func (.func 96) #[.agg #[.pointer (some q)]] #[], .func (.func 97) #[.agg #[.pointer (some q)]] #[]])
    (by simp [results, Tryz.results85, go_sem]) rfl ⟨rfl, ((Below.refl _ w).alloc (Nat.le_refl _) _).alloc (by simp) _⟩

theorem set_fun (x y : Int) (q : Addr) (w : World) (hc : w.cell? q = some (.int .i64 x)) (hf : w.frozen? q = false) :
    Calls Tryz.prog 97 #[.agg #[.pointer (some q)], .int .i64 y] w fun e w' => e = .returned (.tuple #[]) ∧ ∃ w1, w' = w1.setCell q (.int .i64 y) ∧ Below w.heap.size w w1 := by
  have hlt := lt_of_cell hc
  have hc' : (w.alloc (.cells #[.pointer (some q)] 172)).cell? q = some (.int .i64 x) := by rw [World.cell?_alloc_lt _ _ _ hlt]; exact hc
  have hf' : (w.alloc (.cells #[.pointer (some q)] 172)).frozen? q = false := (by rw [RowKit.frozen?_alloc_cells]; exact hf)
  go_enter Tryz.func97, Tryz.ntmps97
  go_wp2
  go_end0
  exact ⟨rfl, _, rfl, (Below.refl _ w).alloc (Nat.le_refl _) _⟩

def fieldC (n : Int) (q : Addr) : List Value := [.int .i64 n, getV q, setV q]
/-- The cells of the fields of the superblock in block B. -/
def fieldsC (B : Nat) : List Value := fieldC 8 ⟨B, 0, none⟩ ++ fieldC 4 ⟨B, 1, none⟩ ++ fieldC 4 ⟨B, 2, none⟩ ++ fieldC 2 ⟨B, 3, none⟩ ++ fieldC 4 ⟨B, 4, none⟩ ++ fieldC 4 ⟨B, 5, none⟩ ++ fieldC 4 ⟨B, 6, none⟩ ++ fieldC 4 ⟨B, 7, none⟩
set_option maxRecDepth 100000 in
set_option maxHeartbeats 3200000 in
theorem fields_any (B : Nat) (w : World) : Calls Tryz.prog 73 #[.pointer (some ⟨B, 0, none⟩)] w fun e w' =>
    ∃ g, e = .returned (.slice (some ⟨g, 0, none⟩) 8 8) ∧ w.heap.size ≤ g ∧ (∃ t, w'.heap[g]? = some (.cells (fieldsC B).toArray t (0, 0))) ∧ Below w.heap.size w w' := by
  unfold fieldsC fieldC getV setV
  go_enter Tryz.func73, Tryz.ntmps73
  go_wp2
  have hB : Below w.heap.size w w.drew := ⟨rfl, rfl, rfl, Nat.le_refl _, fun _ _ => rfl⟩
  go_region_held3 (fun w' => Below w.heap.size w w')
    (first
      | exact hB
      | exact hB.alloc hB.size _)
    (first
      | (go_at_call 85; refine (one_any _ _ _).mono ?_; rintro e w1 ⟨rfl, hb⟩; have hB := below_then hB hb hB.size; unfold fieldV getV setV))
  go_wp2
  go_ret
  exact ⟨_, rfl, hB.size, ⟨_, alloc_new _ _ _ rfl⟩, hB.alloc hB.size _⟩
end Go.Proofs.YtnjpaanjgbfbaaaGreat
