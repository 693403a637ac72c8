/- The walk of chapter 8: lay. -/
import Derived.Test.YtpdmhnppibfmkaaClA
import Derived.Test.YtpdmhnppibfmkaaZr
namespace Go.Proofs.Ytpdmhnppibfmkaa
set_option linter.unusedVariables false
set_option linter.unusedSimpArgs false
open Go.RowKit

/-- The first j numbers laid. -/
def layTo (ns xs : List Int) : Nat → List UInt8
  | 0 => []
  | j + 1 => layTo ns xs j ++ P.be (ns.getD j 0).toNat (xs.getD j 0).toNat
theorem layTo_length (ns xs : List Int) (h : ∀ x ∈ ns, 1 ≤ x ∧ x ≤ 8) (j : Nat) (hj : j ≤ ns.length) : (layTo ns xs j).length ≤ 8 * j := by
  induction j with
  | zero => simp [layTo]
  | succ j ih =>
    have h1 := ih (by omega)
    have h2 := h (ns.getD j 0) (by rw [List.getD_eq_getElem?_getD, List.getElem?_eq_getElem (by omega)]; exact List.getElem_mem _)
    simp only [layTo, List.length_append, P.be_length]
    omega
set_option maxRecDepth 100000 in
set_option maxHeartbeats 1600000 in
theorem lay_any (a : Option Addr) (n ca : Nat) (ns : List Int) (b : Option Addr) (m cb : Nat) (xs : List Int) (w : World) (ha : RI w a n ns) (hb : RI w b m xs) (hnm : n ≤ m) (hn10 : n ≤ 10)
    (h1 : ∀ x ∈ ns, 1 ≤ x ∧ x ≤ 8) (h2 : ∀ i, i < n → 0 ≤ xs.getD i 0 ∧ xs.getD i 0 ≤ 1152921504606846976 ∧ xs.getD i 0 < 256 ^ (ns.getD i 0).toNat) :
    Calls Try.prog 67 #[.slice a n ca, .slice b m cb] w fun e w' => ∃ v, e = .returned v ∧ OB w' w.heap.size v (layTo ns xs n) ∧ Below w.heap.size w w' := by
  have hln := ha.len
  have hlm := hb.len
  have HA := Lib.hid ha
  have HB := Lib.hid hb
  have H1 := Lib.hid h1
  have H2 := Lib.hid h2
  have HLL := Lib.hid (layTo_length ns xs h1)
  clear ha hb h1 h2
  go_enter Try.func67, Try.ntmps67
  go_wp2
  go_loopw [5, 12] (fun v i wr => ∃ j : Nat, j ≤ n ∧ i = .int .i64 j ∧ (∃ a n c, v = .slice a n c) ∧ OB wr w.heap.size v (layTo ns xs j) ∧ Below w.heap.size w wr) (fun v i _ => n - (intOf i).toNat)
  case atStart => exact ⟨0, by omega, rfl, ⟨_, _, _, rfl⟩, OB.nil _ _, Below.refl _ _⟩
  case round =>
    obtain ⟨j, hj, rfl, ⟨av, nv, cv, rfl⟩, ho, hbr⟩ := hrel
    have HO := Lib.hid ho
    clear ho
    by_cases hlt : j < n
    · obtain ⟨p, rfl, hp⟩ := (HA.out.below hbr).at j (by omega)
      obtain ⟨q, rfl, hq⟩ := (HB.out.below hbr).at j (by omega)
      have hs := H1.out ns[j] (List.getElem_mem _)
      have hx := H2.out j hlt
      have en : ns.getD j 0 = ns[j] := by simp [List.getD, show j < ns.length by omega]
      have ex : xs.getD j 0 = xs[j] := by simp [List.getD, show j < xs.length by omega]
      have hll := HLL.out j (by omega)
      have hnx : layTo ns xs (j + 1) = layTo ns xs j ++ P.be (ns[j]).toNat (xs[j]).toNat := by rw [layTo, en, ex]
      rw [en, ex] at hx
      obtain ⟨N, hN⟩ : ∃ N : Nat, ns[j] = (N : Int) := ⟨(ns[j]).toNat, by omega⟩
      obtain ⟨X, hX⟩ : ∃ X : Int, X = xs[j] := ⟨_, rfl⟩
      rw [hN] at hs hx hp hnx
      rw [← hX] at hx hq hnx
      simp only [Int.toNat_natCast] at hx hnx
      have HNX := Lib.hid hnx
      have hput := put_zr N X (by omega) (by omega) hx.1 hx.2.1 hx.2.2
      have hzm : N ≤ maxLen := by unfold maxLen; omega
      have hmk := mk_zr N (by omega)
      have hB : Below wr.heap.size wr wr.drew := ⟨rfl, rfl, rfl, Nat.le_refl _, fun _ _ => rfl⟩
      have lq : (q.add j).block < wr.heap.size := lt_of_cell hq
      have jm1 : (0 : Int) ≤ (j : Int) := by omega
      have jm2 : (j : Int) < (m : Int) := by omega
      clear en ex hN hX hnx hll
      go_wp2
      go_region_held3 (fun w' => w'.cell? (q.add j) = some (.int .i64 X))
        (first
          | exact (hB.cell lq).trans hq
          | exact ((hB.alloc hB.size _).cell lq).trans hq)
        (first
          | (go_at_call 53; refine (put_good _ _ _ (List.replicate N 0) _ _ _ _ _ (by first | exact Rd_zr _ _ _ hzm | exact (Rd_zr _ _ _ hzm).below (Below.refl _ _)) hput (by omega)).mono ?_; rintro e wp ⟨vp, rfl, hownp, hbp⟩; have hB := below_then (by first | exact hB | exact hB.alloc hB.size _) hbp (by first | exact hB.size | exact (hB.alloc hB.size _).size); obtain ⟨ap, pp, hvp, hrp, -, -, -⟩ := hownp.form; subst hvp))
      all_goals
        have hll := HLL.out j (by omega)
        rw [P.be_length] at hrp ⊢
        have hst : w.heap.size ≤ wp.heap.size := by have := hB.size; have := hbr.size; omega
        have HRP := Lib.hid hrp
        have HBT := Lib.hid hB
        clear hownp hrp hB hput hmk hbp hq hp
        go_wp2_with (at_builtin; refine wpList_app _ rfl _ _ rfl w.heap.size _ _ rfl (HO.out.below HBT.out) _ _ _ _ rfl HRP.out ?c1 hst ?_)
        case c1 => omega
        intro v1 w1 hown1 hg1 hat1
        have hb1 : Below w.heap.size w w1 := (HO.out.below HBT.out).grown (below_then hbr HBT.out hbr.size) hst hg1
        rw [← HNX.out] at hown1
        obtain ⟨a1, c1, hv1, -, -, -, -⟩ := hown1.form
        subst hv1
        have HO1 : Hid (OB w1 w.heap.size (.slice a1 (layTo ns xs (j + 1)).length c1) (layTo ns xs (j + 1))) := Lib.hid hown1
        clear hown1 hg1 hat1
        go_wp2
        go_roundw
        case rel => exact ⟨j + 1, by omega, by first | go_num | (simp; done), ⟨_, _, _, rfl⟩, HO1.out, hb1⟩
        case measure => simp [intOf]; omega
    · obtain rfl : j = n := by omega
      go_wp2
      go_ret
      exact ⟨_, rfl, HO.out, hbr⟩
theorem layP (x : P.Q) : layTo [4, 2, 2, 2, 2] [x.a, x.b, x.c, x.d, 0] 5 = x.encP := by simp [layTo, P.Q.encP]
theorem layK (x : P.Q) : layTo [4, 4, 8, 4] [x.a, x.b, x.c, x.d] 4 = x.encK := by simp [layTo, P.Q.encK]
end Go.Proofs.Ytpdmhnppibfmkaa
