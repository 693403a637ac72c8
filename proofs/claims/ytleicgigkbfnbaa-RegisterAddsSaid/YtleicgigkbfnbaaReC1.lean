/- The walk of chapter 21: Set. Printed by gen_rec.py. -/
import Derived.Test.YtleicgigkbfnbaaReC
namespace Go.Proofs.Ytleicgigkbfnbaa
set_option linter.unusedVariables false
set_option linter.unusedSimpArgs false
open Go.RowKit
variable {A : Nat → Prop}

set_option maxRecDepth 100000 in
set_option maxHeartbeats 6400000 in
theorem set_more_tfe (p b c nm k : Nat) (a : Option Addr) (m cp : Nat) (t : List UInt8) (M : RM) (w : World) (h : RegIs A w p b c M nm) (hc : c ≤ 1000000) (hk : k < 256) (hr : Rd w a m t) (hm : m ≤ cp) (hm2 : m ≤ 1048576) (hmo : 65 ≤ k ∧ k ≤ 90)
    (vt : List UInt8) (hold : (M (sm k)).getD (false, []) = (false, vt)) (hlen : vt.length + 1 + t.length ≤ 1048576) (hv : vt = []) :
    Calls Try.prog 13 #[.pointer (some ⟨p, 0, none⟩), .int .u8 k, .bool true, .slice a m cp] w fun e w' => e = .returned (.bool true) ∧ RegIs A w' p b (c + 1) (upd M (sm k) (some (true, nl true vt ++ t))) nm ∧ Chg (fun j => j = p ∨ j = b) w w' := by
  obtain ⟨V, n, vl, va, vm, vc, vt', hms, hnc, hget, -, hgd, hrv, hvc, hvm, hvp⟩ := h.old (sm k) (sm_lt hk)
  rw [hold] at hgd
  simp only [Prod.mk.injEq] at hgd
  obtain ⟨rfl, rfl⟩ := hgd
  have HMA := Lib.hid (made_any p b c nm M w h)
  have HOW := Lib.hid (own_any k w)
  rw [own_more hmo] at HOW
  have HMO := Lib.hid (more_any k w)
  rw [decide_eq_true hmo] at HMO
  have HSM := Lib.hid (fun w => small_any k w hk)
  have hlk2 : ∀ o : Obj, (Instr.lookup 48 (.map (some b)) (.int .u8 (sm k)) false).run Try.prog (w.alloc o).drew = .ok (.agg #[.bool false, .slice va vm vc]) (w.alloc o).drew := fun o => by
    rw [← hget]
    exact (show Ms (w.alloc o).drew b n V from (hms.below ((Below.refl _ w).alloc (Nat.le_refl _) o) : Ms (w.alloc o) b n V)).look1 (sm k) (sm_lt hk)
  have hlk := (show Ms w.drew b n V from hms).look1 (sm k) (sm_lt hk)
  rw [hget] at hlk
  have hlp := lt_of_block h.1
  have H1 := Lib.hid h.1
  have HH := Lib.hid h
  have hB : Below w.heap.size w w.drew := ⟨rfl, rfl, rfl, Nat.le_refl _, fun _ _ => rfl⟩
  have kp : ∀ w', Below w.heap.size w w' → ∀ i, w'.cell? ⟨p, i, none⟩ = (#[.map (some b), .int .u8 nm] : Array Value)[i]? := fun w' h => cell_blk ((h.block _ hlp).trans H1.out)
  have KP := Lib.hid kp
  have HR := Lib.hid hr
  have HRV := Lib.hid hrv
  have hvl := hrv.1
  have htl := hr.1
  have hsk := sm_lt hk
  subst hv
  have hvm0 : vm = 0 := by simpa using hvl.symm
  subst hvm0
  have hnl : nl true ([] : List UInt8) = [] := by unfold nl; simp
  rw [hnl]
  have HVL := Lib.hid hvl
  have HTL := Lib.hid htl
  clear h hr hrv kp hold hms hget hnl hmo hvl htl  
  have gp := KP.out w (Below.refl _ _)
  go_enter Try.func13, Try.ntmps13
  go_wp2_with fail
  refine HMA.out.mono ?_
  rintro e w1 ⟨rfl, rfl⟩
  go_wp2_with fail
  refine HOW.out.mono ?_
  rintro e w2 ⟨rfl, rfl⟩
  go_wp2_with fail
  refine HMO.out.mono ?_
  rintro e w3 ⟨rfl, rfl⟩
  go_wp2
  go_region_held3 (fun w' => ∀ i, w'.cell? ⟨p, i, none⟩ = (#[.map (some b), .int .u8 nm] : Array Value)[i]?)
    (first
      | exact KP.out _ hB
      | exact KP.out _ (hB.alloc hB.size _))
    (first
      | (go_at_call 25; refine (HSM.out _).mono ?_; rintro e ws ⟨rfl, rfl⟩))
  all_goals
    have hbA : Below w3.heap.size w3 (w3.alloc (.cells #[.bool false, .slice va 0 vc] 54)).drew := ⟨rfl, rfl, rfl, by simp, fun k hk => Below.heap_alloc _ _ _ hk⟩
    have hkA : (w3.alloc (.cells #[.bool false, .slice va 0 vc] 54)).drew.heap[w3.heap.size]? = some (.cells #[.bool false, .slice va 0 vc] 54 (0, 0)) := alloc_new w3 _ _ rfl
    generalize (w3.alloc (.cells #[.bool false, .slice va 0 vc] 54)).drew = w4 at *
    have gv := cell_blk hkA
    clear hlk hlk2 hkA gp
    go_wp2_with fail
    refine (clone_any va 0 vc [] w4 (HRV.out.below hbA) hvm).mono ?_
    rintro e w5 ⟨v5, rfl, ho5, hb5⟩
    have hbb5 := below_then hbA hb5 hbA.size
    obtain ⟨a5, c5, hv5, -, -, -, -⟩ := ho5.form
    rw [HVL.out] at hv5
    subst hv5
    have HO5 := Lib.hid (ho5.mono hbA.size)
    clear ho5
    go_wp2_with (first
      | (go_at_call 25; refine (HSM.out _).mono ?_; rintro e ws ⟨rfl, rfl⟩)
      | (at_builtin; refine wpList_app _ rfl _ _ rfl w3.heap.size _ _ rfl HO5.out _ _ _ _ rfl (HR.out.below hbb5) ?c1 hbb5.size ?_))
    case c1 => rw [HVL.out]; omega
    intro v7 w7 ho7 hg7 hat7
    have hbb7 : Below w3.heap.size w3 w7 := HO5.out.grown hbb5 hbb5.size hg7
    have hl7 : ([] ++ t).length ≤ 1048576 := by simp; have := HTL.out; omega
    obtain ⟨X, hX⟩ : ∃ X, X = t := ⟨_, rfl⟩
    have hX2 : X = [] ++ t := by rw [hX]; rfl
    rw [← hX] at ho7
    rw [← hX2] at hl7
    have HX2 := Lib.hid hX2
    obtain ⟨a7, c7, hv7, hr7, hc7, -, -⟩ := ho7.form
    have hpu := put_any p b c nm (sm k) true a7 X.length c7 X M w7 (HH.out.below hbb7) hc hsk hr7 hl7
    subst hv7
    have HPU := Lib.hid hpu
    have hcc := Chg.of_below hbb7 (fun j => j = p ∨ j = b)
    clear ho7 hr7 hpu hg7 hat7 hX hX2
    go_wp2_with fail
    refine HPU.out.mono ?_
    rintro e w8 ⟨⟨v, rfl⟩, hr8, hc8⟩
    go_wp2
    go_ret
    rw [HX2.out] at hr8
    exact ⟨rfl, hr8, hcc.trans hc8⟩
set_option maxRecDepth 100000 in
set_option maxHeartbeats 6400000 in
theorem set_more_tft (p b c nm k : Nat) (a : Option Addr) (m cp : Nat) (t : List UInt8) (M : RM) (w : World) (h : RegIs A w p b c M nm) (hc : c ≤ 1000000) (hk : k < 256) (hr : Rd w a m t) (hm : m ≤ cp) (hm2 : m ≤ 1048576) (hmo : 65 ≤ k ∧ k ≤ 90)
    (vt : List UInt8) (hold : (M (sm k)).getD (false, []) = (false, vt)) (hlen : vt.length + 1 + t.length ≤ 1048576) (hv : vt ≠ []) (hl : vt.getLast? = some 10) :
    Calls Try.prog 13 #[.pointer (some ⟨p, 0, none⟩), .int .u8 k, .bool true, .slice a m cp] w fun e w' => e = .returned (.bool true) ∧ RegIs A w' p b (c + 1) (upd M (sm k) (some (true, nl true vt ++ t))) nm ∧ Chg (fun j => j = p ∨ j = b) w w' := by
  obtain ⟨V, n, vl, va, vm, vc, vt', hms, hnc, hget, -, hgd, hrv, hvc, hvm, hvp⟩ := h.old (sm k) (sm_lt hk)
  rw [hold] at hgd
  simp only [Prod.mk.injEq] at hgd
  obtain ⟨rfl, rfl⟩ := hgd
  have HMA := Lib.hid (made_any p b c nm M w h)
  have HOW := Lib.hid (own_any k w)
  rw [own_more hmo] at HOW
  have HMO := Lib.hid (more_any k w)
  rw [decide_eq_true hmo] at HMO
  have HSM := Lib.hid (fun w => small_any k w hk)
  have hlk2 : ∀ o : Obj, (Instr.lookup 48 (.map (some b)) (.int .u8 (sm k)) false).run Try.prog (w.alloc o).drew = .ok (.agg #[.bool false, .slice va vm vc]) (w.alloc o).drew := fun o => by
    rw [← hget]
    exact (show Ms (w.alloc o).drew b n V from (hms.below ((Below.refl _ w).alloc (Nat.le_refl _) o) : Ms (w.alloc o) b n V)).look1 (sm k) (sm_lt hk)
  have hlk := (show Ms w.drew b n V from hms).look1 (sm k) (sm_lt hk)
  rw [hget] at hlk
  have hlp := lt_of_block h.1
  have H1 := Lib.hid h.1
  have HH := Lib.hid h
  have hB : Below w.heap.size w w.drew := ⟨rfl, rfl, rfl, Nat.le_refl _, fun _ _ => rfl⟩
  have kp : ∀ w', Below w.heap.size w w' → ∀ i, w'.cell? ⟨p, i, none⟩ = (#[.map (some b), .int .u8 nm] : Array Value)[i]? := fun w' h => cell_blk ((h.block _ hlp).trans H1.out)
  have KP := Lib.hid kp
  have HR := Lib.hid hr
  have HRV := Lib.hid hrv
  have hvl := hrv.1
  have htl := hr.1
  have hsk := sm_lt hk
  have hnl : nl true vt = vt := by unfold nl; rw [if_neg (by simp [hl])]
  rw [hnl]
  have hpos : 0 < vm := by rcases vt with _ | ⟨x, y⟩; exact absurd rfl hv; simp at hvl; omega
  have hli : vm - 1 < vt.length := by omega
  have hlast : vt[vm - 1]'hli = 10 := by
    rw [List.getLast?_eq_getElem?, hvl, List.getElem?_eq_getElem (by omega)] at hl
    injection hl
  have HVL := Lib.hid hvl
  have HTL := Lib.hid htl
  clear h hr hrv kp hold hms hget hnl hmo hvl htl hv hl
  have gp := KP.out w (Below.refl _ _)
  go_enter Try.func13, Try.ntmps13
  go_wp2_with fail
  refine HMA.out.mono ?_
  rintro e w1 ⟨rfl, rfl⟩
  go_wp2_with fail
  refine HOW.out.mono ?_
  rintro e w2 ⟨rfl, rfl⟩
  go_wp2_with fail
  refine HMO.out.mono ?_
  rintro e w3 ⟨rfl, rfl⟩
  go_wp2
  go_region_held3 (fun w' => ∀ i, w'.cell? ⟨p, i, none⟩ = (#[.map (some b), .int .u8 nm] : Array Value)[i]?)
    (first
      | exact KP.out _ hB
      | exact KP.out _ (hB.alloc hB.size _))
    (first
      | (go_at_call 25; refine (HSM.out _).mono ?_; rintro e ws ⟨rfl, rfl⟩))
  all_goals
    have hbA : Below w3.heap.size w3 (w3.alloc (.cells #[.bool false, .slice va vm vc] 54)).drew := ⟨rfl, rfl, rfl, by simp, fun k hk => Below.heap_alloc _ _ _ hk⟩
    have hkA : (w3.alloc (.cells #[.bool false, .slice va vm vc] 54)).drew.heap[w3.heap.size]? = some (.cells #[.bool false, .slice va vm vc] 54 (0, 0)) := alloc_new w3 _ _ rfl
    generalize (w3.alloc (.cells #[.bool false, .slice va vm vc] 54)).drew = w4 at *
    have gv := cell_blk hkA
    clear hlk hlk2 hkA gp
    go_wp2_with fail
    refine (clone_any va vm vc vt w4 (HRV.out.below hbA) hvm).mono ?_
    rintro e w5 ⟨v5, rfl, ho5, hb5⟩
    have hbb5 := below_then hbA hb5 hbA.size
    obtain ⟨g5, c5, hv5, -, -, -, -⟩ := ho5.pos (by rw [HVL.out]; omega)
    obtain ⟨kk, hkk⟩ : ∃ kk, kk = vm - 1 := ⟨_, rfl⟩
    have hkk2 : (vm : Int) - 1 = (kk : Int) := by omega
    have hkl : kk < vt.length := by rw [HVL.out]; omega
    subst hv5
    have hcl := ho5.cell kk hkl
    rw [show vt[kk]'hkl = vt[vm - 1]'hli by subst hkk; rfl] at hcl
    unfold bv at hcl
    rw [hlast] at hcl
    have hcl : w5.cell? ⟨g5, kk, none⟩ = some (.int .u8 10) := hcl
    rw [HVL.out] at ho5 ⊢
    have k1 : (0 : Int) ≤ (kk : Int) := by omega
    have k2 : (kk : Int) < (vm : Int) := by omega
    have k3 : (0 : Int) < (vm : Int) := by omega
    have HO5 := Lib.hid (ho5.mono hbA.size)
    have HCL := Lib.hid hcl
    clear ho5 hkk hlast hkl
    go_wp2_with (first
      | (go_at_call 25; refine (HSM.out _).mono ?_; rintro e ws ⟨rfl, rfl⟩)
      | (at_builtin; refine wpList_app _ rfl _ _ rfl w3.heap.size _ _ rfl HO5.out _ _ _ _ rfl (HR.out.below hbb5) ?c1 hbb5.size ?_))
    case c1 => rw [HVL.out]; omega
    intro v7 w7 ho7 hg7 hat7
    have hbb7 : Below w3.heap.size w3 w7 := HO5.out.grown hbb5 hbb5.size hg7
    have hl7 : (vt ++ t).length ≤ 1048576 := by simp; have := HTL.out; have := HVL.out; omega
    obtain ⟨X, hX⟩ : ∃ X, X = vt ++ t := ⟨_, rfl⟩
    have hX2 : X = vt ++ t := by rw [hX]
    rw [← hX] at ho7
    rw [← hX2] at hl7
    have HX2 := Lib.hid hX2
    obtain ⟨a7, c7, hv7, hr7, hc7, -, -⟩ := ho7.form
    have hpu := put_any p b c nm (sm k) true a7 X.length c7 X M w7 (HH.out.below hbb7) hc hsk hr7 hl7
    subst hv7
    have HPU := Lib.hid hpu
    have hcc := Chg.of_below hbb7 (fun j => j = p ∨ j = b)
    clear ho7 hr7 hpu hg7 hat7 hX hX2
    go_wp2_with fail
    refine HPU.out.mono ?_
    rintro e w8 ⟨⟨v, rfl⟩, hr8, hc8⟩
    go_wp2
    go_ret
    rw [HX2.out] at hr8
    exact ⟨rfl, hr8, hcc.trans hc8⟩
set_option maxRecDepth 100000 in
set_option maxHeartbeats 6400000 in
theorem set_more_tfo (p b c nm k : Nat) (a : Option Addr) (m cp : Nat) (t : List UInt8) (M : RM) (w : World) (h : RegIs A w p b c M nm) (hc : c ≤ 1000000) (hk : k < 256) (hr : Rd w a m t) (hm : m ≤ cp) (hm2 : m ≤ 1048576) (hmo : 65 ≤ k ∧ k ≤ 90)
    (vt : List UInt8) (hold : (M (sm k)).getD (false, []) = (false, vt)) (hlen : vt.length + 1 + t.length ≤ 1048576) (hv : vt ≠ []) (hl : vt.getLast? ≠ some 10) :
    Calls Try.prog 13 #[.pointer (some ⟨p, 0, none⟩), .int .u8 k, .bool true, .slice a m cp] w fun e w' => e = .returned (.bool true) ∧ RegIs A w' p b (c + 1) (upd M (sm k) (some (true, nl true vt ++ t))) nm ∧ Chg (fun j => j = p ∨ j = b) w w' := by
  obtain ⟨V, n, vl, va, vm, vc, vt', hms, hnc, hget, -, hgd, hrv, hvc, hvm, hvp⟩ := h.old (sm k) (sm_lt hk)
  rw [hold] at hgd
  simp only [Prod.mk.injEq] at hgd
  obtain ⟨rfl, rfl⟩ := hgd
  have HMA := Lib.hid (made_any p b c nm M w h)
  have HOW := Lib.hid (own_any k w)
  rw [own_more hmo] at HOW
  have HMO := Lib.hid (more_any k w)
  rw [decide_eq_true hmo] at HMO
  have HSM := Lib.hid (fun w => small_any k w hk)
  have hlk2 : ∀ o : Obj, (Instr.lookup 48 (.map (some b)) (.int .u8 (sm k)) false).run Try.prog (w.alloc o).drew = .ok (.agg #[.bool false, .slice va vm vc]) (w.alloc o).drew := fun o => by
    rw [← hget]
    exact (show Ms (w.alloc o).drew b n V from (hms.below ((Below.refl _ w).alloc (Nat.le_refl _) o) : Ms (w.alloc o) b n V)).look1 (sm k) (sm_lt hk)
  have hlk := (show Ms w.drew b n V from hms).look1 (sm k) (sm_lt hk)
  rw [hget] at hlk
  have hlp := lt_of_block h.1
  have H1 := Lib.hid h.1
  have HH := Lib.hid h
  have hB : Below w.heap.size w w.drew := ⟨rfl, rfl, rfl, Nat.le_refl _, fun _ _ => rfl⟩
  have kp : ∀ w', Below w.heap.size w w' → ∀ i, w'.cell? ⟨p, i, none⟩ = (#[.map (some b), .int .u8 nm] : Array Value)[i]? := fun w' h => cell_blk ((h.block _ hlp).trans H1.out)
  have KP := Lib.hid kp
  have HR := Lib.hid hr
  have HRV := Lib.hid hrv
  have hvl := hrv.1
  have htl := hr.1
  have hsk := sm_lt hk
  have hnl : nl true vt = vt ++ [10] := by unfold nl; rw [if_pos ⟨rfl, hv, hl⟩]
  rw [hnl]
  have hpos : 0 < vm := by rcases vt with _ | ⟨x, y⟩; exact absurd rfl hv; simp at hvl; omega
  have hli : vm - 1 < vt.length := by omega
  have hlast : vt[vm - 1]'hli ≠ 10 := by
    intro e
    apply hl
    rw [List.getLast?_eq_getElem?, hvl, List.getElem?_eq_getElem (by omega), e]
  have HVL := Lib.hid hvl
  have HTL := Lib.hid htl
  clear h hr hrv kp hold hms hget hnl hmo hvl htl hv hl
  have gp := KP.out w (Below.refl _ _)
  go_enter Try.func13, Try.ntmps13
  go_wp2_with fail
  refine HMA.out.mono ?_
  rintro e w1 ⟨rfl, rfl⟩
  go_wp2_with fail
  refine HOW.out.mono ?_
  rintro e w2 ⟨rfl, rfl⟩
  go_wp2_with fail
  refine HMO.out.mono ?_
  rintro e w3 ⟨rfl, rfl⟩
  go_wp2
  go_region_held3 (fun w' => ∀ i, w'.cell? ⟨p, i, none⟩ = (#[.map (some b), .int .u8 nm] : Array Value)[i]?)
    (first
      | exact KP.out _ hB
      | exact KP.out _ (hB.alloc hB.size _))
    (first
      | (go_at_call 25; refine (HSM.out _).mono ?_; rintro e ws ⟨rfl, rfl⟩))
  all_goals
    have hbA : Below w3.heap.size w3 (w3.alloc (.cells #[.bool false, .slice va vm vc] 54)).drew := ⟨rfl, rfl, rfl, by simp, fun k hk => Below.heap_alloc _ _ _ hk⟩
    have hkA : (w3.alloc (.cells #[.bool false, .slice va vm vc] 54)).drew.heap[w3.heap.size]? = some (.cells #[.bool false, .slice va vm vc] 54 (0, 0)) := alloc_new w3 _ _ rfl
    generalize (w3.alloc (.cells #[.bool false, .slice va vm vc] 54)).drew = w4 at *
    have gv := cell_blk hkA
    clear hlk hlk2 hkA gp
    go_wp2_with fail
    refine (clone_any va vm vc vt w4 (HRV.out.below hbA) hvm).mono ?_
    rintro e w5 ⟨v5, rfl, ho5, hb5⟩
    have hbb5 := below_then hbA hb5 hbA.size
    obtain ⟨g5, c5, hv5, -, -, -, -⟩ := ho5.pos (by rw [HVL.out]; omega)
    obtain ⟨kk, hkk⟩ : ∃ kk, kk = vm - 1 := ⟨_, rfl⟩
    have hkk2 : (vm : Int) - 1 = (kk : Int) := by omega
    have hkl : kk < vt.length := by rw [HVL.out]; omega
    subst hv5
    have hcl := ho5.cell kk hkl
    rw [show vt[kk]'hkl = vt[vm - 1]'hli by subst hkk; rfl] at hcl
    unfold bv at hcl
    obtain ⟨y, hy⟩ : ∃ y, y = (vt[vm - 1]'hli) := ⟨_, rfl⟩
    rw [← hy] at hcl hlast
    obtain ⟨ny, hny⟩ : ∃ n, n = y.toNat := ⟨_, rfl⟩
    rw [← hny] at hcl
    have hn10 : ¬ ny = 10 := by
      intro e
      exact hlast (UInt8.toNat_inj.1 (by show y.toNat = 10; omega))
    have hy10 : (((ny : Nat) : Int) != 10) = true := by simp; omega
    have hy11 : ¬ ((ny : Nat) : Int) = 10 := by omega
    clear hny hy
    rw [HVL.out] at ho5 ⊢
    have k1 : (0 : Int) ≤ (kk : Int) := by omega
    have k2 : (kk : Int) < (vm : Int) := by omega
    have k3 : (0 : Int) < (vm : Int) := by omega
    have HO5 := Lib.hid (ho5.mono hbA.size)
    have HCL := Lib.hid hcl
    clear ho5 hkk hlast hkl
    go_wp2_with (first
      | (at_builtin; refine wpList_app _ rfl _ _ rfl w3.heap.size _ _ rfl (HO5.out.alloc _) _ _ _ _ rfl (Rd_lit w5 5 [10] (fr := (0, 0)) (by simp [maxLen])) ?d1 ?d2 ?_)
      | (go_at_call 25; refine (HSM.out _).mono ?_; rintro e ws ⟨rfl, rfl⟩))
    case d1 => rw [HVL.out]; simp; omega
    case d2 => have := hbb5.size; simp; omega
    intro v6 w6 ho6 hg6 hat6
    have hbb6 : Below w3.heap.size w3 w6 := (HO5.out.alloc _).grown (hbb5.alloc hbb5.size _) (by have := hbb5.size; simp; omega) hg6
    obtain ⟨X6, hX6⟩ : ∃ X, X = vt ++ [10] := ⟨_, rfl⟩
    rw [← hX6] at ho6
    have hX6l : X6.length = vt.length + 1 := by rw [hX6]; simp
    have HX6 := Lib.hid hX6
    have HX6L := Lib.hid hX6l
    obtain ⟨a6, c6, hv6, -, -, -, -⟩ := ho6.form
    subst hv6
    have HO6 := Lib.hid ho6
    clear ho6 hg6 hat6 hX6 hX6l
    go_wp2_with (first
      | (go_at_call 25; refine (HSM.out _).mono ?_; rintro e ws ⟨rfl, rfl⟩)
      | (at_builtin; refine wpList_app _ rfl _ _ rfl w3.heap.size _ _ rfl HO6.out _ _ _ _ rfl (HR.out.below hbb6) ?c1 hbb6.size ?_))
    case c1 => rw [HX6L.out, HVL.out]; omega
    intro v7 w7 ho7 hg7 hat7
    have hbb7 : Below w3.heap.size w3 w7 := HO6.out.grown hbb6 hbb6.size hg7
    have hl7 : ((vt ++ [10]) ++ t).length ≤ 1048576 := by simp; have := HTL.out; have := HVL.out; omega
    obtain ⟨X, hX⟩ : ∃ X, X = X6 ++ t := ⟨_, rfl⟩
    have hX2 : X = (vt ++ [10]) ++ t := by rw [hX, HX6.out]
    rw [← hX] at ho7
    rw [← hX2] at hl7
    have HX2 := Lib.hid hX2
    obtain ⟨a7, c7, hv7, hr7, hc7, -, -⟩ := ho7.form
    have hpu := put_any p b c nm (sm k) true a7 X.length c7 X M w7 (HH.out.below hbb7) hc hsk hr7 hl7
    subst hv7
    have HPU := Lib.hid hpu
    have hcc := Chg.of_below hbb7 (fun j => j = p ∨ j = b)
    clear ho7 hr7 hpu hg7 hat7 hX hX2
    go_wp2_with fail
    refine HPU.out.mono ?_
    rintro e w8 ⟨⟨v, rfl⟩, hr8, hc8⟩
    go_wp2
    go_ret
    rw [HX2.out] at hr8
    exact ⟨rfl, hr8, hcc.trans hc8⟩
end Go.Proofs.Ytleicgigkbfnbaa
