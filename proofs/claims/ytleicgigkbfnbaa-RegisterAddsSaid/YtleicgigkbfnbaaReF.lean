/- The walk of chapter 21: Get. -/
import Derived.Test.YtleicgigkbfnbaaReE
namespace Go.Proofs.Ytleicgigkbfnbaa
set_option linter.unusedVariables false
set_option linter.unusedSimpArgs false
open Go.RowKit
variable {A : Nat → Prop}

theorem set3 {w w1 : World} {B : Nat} (h : Below B w w1) (u0 u1 u2 : Value) :
    Below B w (((w1.setCell ⟨B, 0, none⟩ u0).setCell ⟨B, 1, none⟩ u1).setCell ⟨B, 2, none⟩ u2) := ((h.setCell (Nat.le_refl _) _).setCell (Nat.le_refl _) _).setCell (Nat.le_refl _) _
theorem blk3 {w1 : World} {B : Nat} {a0 a1 a2 : Value} {t : TypeId} {fr : Nat × Nat} (h : w1.heap[B]? = some (.cells #[a0, a1, a2] t fr)) (u0 u1 u2 : Value) :
    (((w1.setCell ⟨B, 0, none⟩ u0).setCell ⟨B, 1, none⟩ u1).setCell ⟨B, 2, none⟩ u2).heap[B]? = some (.cells #[u0, u1, u2] t fr) := blk_setCell (blk_setCell (blk_setCell h 0 u0) 1 u1) 2 u2
def gk (nm k : Nat) : Nat := sm (if k = 34 then nm else k)
set_option maxRecDepth 100000 in
set_option maxHeartbeats 1600000 in
theorem get_none (p b c nm k : Nat) (M : RM) (w : World) (h : RegIs A w p b c M nm) (hk : k < 256) (hM : M (gk nm k) = none) :
    Calls Try.prog 12 #[.pointer (some ⟨p, 0, none⟩), .int .u8 k] w fun e w' => e = .returned (.tuple #[.agg #[.int .u8 0, .bool false, .slice none 0 0], .bool false]) ∧ Below w.heap.size w w' := by
  obtain ⟨K1, hK1⟩ : ∃ K1, K1 = if k = 34 then nm else k := ⟨_, rfl⟩
  have hK2 : K1 < 256 := by rw [hK1]; split; exact h.2.2.1; exact hk
  unfold gk at hM
  rw [← hK1] at hM
  obtain ⟨V, n, vl, va, vm, vc, vt, hms, hnc, hget, his, hgd, hrv, hvc, hvm, hvp⟩ := h.old (sm K1) (sm_lt hK2)
  rw [hM] at his
  have hz : V (sm K1) = none := by
    rcases hv : V (sm K1) with _ | x
    · rfl
    · rw [hv] at his; cases his
  rw [hz] at hget
  have hb0 : Below w.heap.size w (w.alloc (.cells #[.int .u8 0, .bool false, .slice none 0 0] 28)) := (Below.refl _ w).alloc (Nat.le_refl _) _
  have hlk : (Instr.lookup 48 (.map (some b)) (.int .u8 (sm K1)) true).run Try.prog (w.alloc (.cells #[.int .u8 0, .bool false, .slice none 0 0] 28)) = .ok (.tuple #[.agg #[.bool false, .slice none 0 0], .bool false]) (w.alloc (.cells #[.int .u8 0, .bool false, .slice none 0 0] 28)) := by
    have h := (hms.below hb0).look (sm K1) (sm_lt hK2)
    rw [hz] at h
    exact h
  have hk0 : (w.alloc (.cells #[.int .u8 0, .bool false, .slice none 0 0] 28)).heap[w.heap.size]? = _ := alloc_new _ _ _ rfl
  have HMA := Lib.hid (fun w (h : RegIs A w p b c M nm) => made_any p b c nm M w h)
  have HSM := Lib.hid (fun w => small_any K1 w hK2)
  have H0 := Lib.hid (h.below hb0)
  have gp := cell_blk (h.below hb0).1
  have hlp := lt_of_block h.1
  clear h hms hrv hM his hget hz hgd
  by_cases h34 : k = 34
  all_goals
    first
      | (rw [if_pos h34] at hK1; subst hK1; subst h34)
      | (rw [if_neg h34] at hK1; subst hK1; have h34' : (((K1 : Nat) : Int) == 34) = false := by simp; omega)
    go_enter Try.func12, Try.ntmps12
    go_wp2_with fail
    generalize (w.alloc (.cells #[.int .u8 0, .bool false, .slice none 0 0] 28)) = w0 at *
    refine (HMA.out _ H0.out).mono ?_
    rintro e w1 ⟨rfl, rfl⟩
    have g0 := fun o : Obj => cell_blk (alloc_old hk0 o)
    have f0 := fun o : Obj => free_blk (alloc_old hk0 o)
    go_wp2_with (go_at_call 25; refine (HSM.out _).mono ?_; rintro e w1 ⟨rfl, rfl⟩)
    generalize hW2 : World.setCell _ ⟨w.heap.size, 2, none⟩ _ = W2
    have hb2 : Below w.heap.size w W2 := by rw [← hW2]; exact set3 (hb0.alloc hb0.size _) _ _ _
    have cl2 := cell_blk (show W2.heap[w.heap.size]? = _ by rw [← hW2]; exact blk3 (alloc_old hk0 _) _ _ _)
    exact bodyPost_ret (v := .tuple #[.agg #[.int .u8 0, .bool false, .slice none 0 0], .bool false]) (by simp [results, Try.results12, go_sem, cl2]) rfl ⟨rfl, hb2⟩
set_option maxRecDepth 100000 in
set_option maxHeartbeats 1600000 in
theorem get_some (p b c nm k : Nat) (M : RM) (w : World) (h : RegIs A w p b c M nm) (hk : k < 256) (ln : Bool) (t : List UInt8) (hM : M (gk nm k) = some (ln, t)) :
    Calls Try.prog 12 #[.pointer (some ⟨p, 0, none⟩), .int .u8 k] w fun e w' => ∃ v, e = .returned (.tuple #[.agg #[.int .u8 (gk nm k), .bool ln, v], .bool true]) ∧ OB w' w.heap.size v t ∧ Below w.heap.size w w' := by
  obtain ⟨K1, hK1⟩ : ∃ K1, K1 = if k = 34 then nm else k := ⟨_, rfl⟩
  have hK2 : K1 < 256 := by rw [hK1]; split; exact h.2.2.1; exact hk
  unfold gk at hM ⊢
  rw [← hK1] at hM ⊢
  obtain ⟨V, n, vl, va, vm, vc, vt, hms, hnc, hget, his, hgd, hrv, hvc, hvm, hvp⟩ := h.old (sm K1) (sm_lt hK2)
  rw [hM] at his hgd
  simp only [Option.getD_some, Prod.mk.injEq] at hgd
  obtain ⟨rfl, rfl⟩ := hgd
  obtain ⟨x, hz⟩ : ∃ x, V (sm K1) = some x := by
    rcases hv : V (sm K1) with _ | x
    · rw [hv] at his; cases his
    · exact ⟨x, rfl⟩
  rw [hz] at hget
  simp only [Option.getD_some] at hget
  have hb0 : Below w.heap.size w (w.alloc (.cells #[.int .u8 0, .bool false, .slice none 0 0] 28)) := (Below.refl _ w).alloc (Nat.le_refl _) _
  have hlk : (Instr.lookup 48 (.map (some b)) (.int .u8 (sm K1)) true).run Try.prog (w.alloc (.cells #[.int .u8 0, .bool false, .slice none 0 0] 28)) = .ok (.tuple #[.agg #[.bool ln, .slice va vm vc], .bool true]) (w.alloc (.cells #[.int .u8 0, .bool false, .slice none 0 0] 28)) := by
    have h := (hms.below hb0).look (sm K1) (sm_lt hK2)
    rw [hz] at h
    simp only [Option.getD_some, hget, Option.isSome_some] at h
    exact h
  have hk0 : (w.alloc (.cells #[.int .u8 0, .bool false, .slice none 0 0] 28)).heap[w.heap.size]? = _ := alloc_new _ _ _ rfl
  have HMA := Lib.hid (fun w (h : RegIs A w p b c M nm) => made_any p b c nm M w h)
  have HSM := Lib.hid (fun w => small_any K1 w hK2)
  have H0 := Lib.hid (h.below hb0)
  have HRV := Lib.hid (hrv.below hb0)
  have gp := cell_blk (h.below hb0).1
  have hlp := lt_of_block h.1
  have HVL := Lib.hid hrv.1
  clear h hms hrv hM his hget hz
  by_cases h34 : k = 34
  all_goals
    first
      | (rw [if_pos h34] at hK1; subst hK1; subst h34)
      | (rw [if_neg h34] at hK1; subst hK1; have h34' : (((K1 : Nat) : Int) == 34) = false := by simp; omega)
    go_enter Try.func12, Try.ntmps12
    go_wp2_with fail
    generalize (w.alloc (.cells #[.int .u8 0, .bool false, .slice none 0 0] 28)) = w0 at *
    refine (HMA.out _ H0.out).mono ?_
    rintro e w1 ⟨rfl, rfl⟩
    go_wp2_with (go_at_call 25; refine (HSM.out _).mono ?_; rintro e w1 ⟨rfl, rfl⟩)
    have hbv : Below w1.heap.size w1 (w1.alloc (.cells #[.bool ln, .slice va vm vc] 54)) := (Below.refl _ w1).alloc (Nat.le_refl _) _
    have hkv : (w1.alloc (.cells #[.bool ln, .slice va vm vc] 54)).heap[w1.heap.size]? = _ := alloc_new _ _ _ rfl
    generalize (w1.alloc (.cells #[.bool ln, .slice va vm vc] 54)) = wv at *
    have hne : w1.heap.size ≠ w.heap.size := by have := lt_of_block hk0; omega
    have lv := lt_of_block hkv
    have hk0v := (hbv.block _ (lt_of_block hk0)).trans hk0
    have hbwv := below_then hb0 hbv hb0.size
    have hS : ∀ w', Chg (fun k => k = w.heap.size) wv w' → ∀ i, w'.cell? ⟨w1.heap.size, i, none⟩ = (#[.bool ln, .slice va vm vc] : Array Value)[i]? := fun w' h => cell_blk ((h.block _ lv hne).trans hkv)
    have HS := Lib.hid hS
    have HK0 := Lib.hid hk0v
    have HRV2 := Lib.hid (HRV.out.below hbv)
    have HCL := Lib.hid (fun w (h : Rd w va vm t) => clone_any va vm vc t w h hvm)
    have hB : Below wv.heap.size wv wv.drew := ⟨rfl, rfl, rfl, Nat.le_refl _, fun _ _ => rfl⟩
    have gv := HS.out wv (Chg.refl _ _)
    clear hS hk0v hkv hk0 hlk gp
    go_region_held3 (fun w' => ∀ i, w'.cell? ⟨w1.heap.size, i, none⟩ = (#[.bool ln, .slice va vm vc] : Array Value)[i]?)
      (first
        | exact HS.out _ (Chg.of_below hB _)
        | exact HS.out _ (Chg.of_below hbC _)
        | exact HS.out _ (((((Chg.of_below hbC (fun k => k = w.heap.size)).setCell _ _ (.inr rfl)).setCell _ _ (.inr rfl)).setCell _ _ (.inr rfl))))
      (first
        | (go_at_call 28; refine (HCL.out _ (HRV2.out.below hB)).mono ?_; rintro e wc ⟨vcl, rfl, hoc, hbc⟩; have hbC := below_then hB hbc hB.size; have hkc := (hbC.block _ (lt_of_block HK0.out)).trans HK0.out; have cz := cell_blk hkc; have fz := free_blk hkc; obtain ⟨ac, cc, hvc2, -, -, -, -⟩ := hoc.form; subst hvc2; have HOC := Lib.hid hoc; have HKC := Lib.hid hkc; clear hoc hkc))
    all_goals
      have hbz := below_then hbwv hbC hbwv.size
      have hbase : ∀ j, (Value.slice ac t.length cc).ownBlock = some j → ¬ j = w.heap.size := fun j hj e => by
        have h := (World.ownsRow.lt HOC.out j hj).1
        have h2 : wv.heap.size ≤ j := h
        have := hbwv.size
        have := lt_of_block HK0.out
        omega
      go_wp2
      generalize hW2 : World.setCell _ ⟨w.heap.size, 2, none⟩ _ = W2
      have hb2 : Below w.heap.size w W2 := by rw [← hW2]; exact set3 hbz _ _ _
      have cl2 := cell_blk (show W2.heap[w.heap.size]? = _ by rw [← hW2]; exact blk3 HKC.out _ _ _)
      have ho2 : OB W2 w.heap.size (.slice ac t.length cc) t := by
        rw [← hW2]
        exact OB.mono (OB.chg (S := fun k => k = w.heap.size) HOC.out ((((Chg.refl (fun k => k = w.heap.size) wc).setCell ⟨w.heap.size, 0, none⟩ (.int .u8 (sm K1)) (.inr rfl)).setCell ⟨w.heap.size, 1, none⟩ (.bool ln) (.inr rfl)).setCell ⟨w.heap.size, 2, none⟩ (.slice ac t.length cc) (.inr rfl)) hbase) hbwv.size
      exact bodyPost_ret (v := .tuple #[.agg #[.int .u8 (sm K1), .bool ln, .slice ac t.length cc], .bool true]) (by simp [results, Try.results12, go_sem, cl2]) rfl ⟨_, rfl, ho2, hb2⟩
end Go.Proofs.Ytleicgigkbfnbaa
