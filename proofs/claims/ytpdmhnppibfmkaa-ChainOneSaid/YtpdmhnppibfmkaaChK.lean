/- The walk of chapter 11's awake. -/
import Derived.Test.YtpdmhnppibfmkaaChJ
namespace Go.Proofs.Ytpdmhnppibfmkaa
set_option linter.unusedVariables false
set_option linter.unusedSimpArgs false
open Go.RowKit

theorem aw_fit : P.fits (List.replicate 245 0) [5, 9] = true := by
  rw [P.fits_iff]
  refine ⟨by rw [List.length_replicate]; rfl, ?_, by decide⟩
  intro p hp
  simp at hp
  rcases hp with rfl | rfl <;> omega
theorem aw_err : P.cutErr (List.replicate 245 0) [5, 9] = 0 := by
  unfold P.cutErr
  rw [aw_fit, if_pos rfl, if_neg (by rw [List.length_replicate]; omega)]
theorem aw_L : P.cutL (List.replicate 245 0) [5, 9] = P.cutTo (List.replicate 245 0) [5, 9] 2 := by
  unfold P.cutL
  rw [if_pos aw_err]
  rfl
theorem aw_get (h : 0 < (P.cutTo (List.replicate 245 0) [5, 9] 2).length) : (P.cutTo (List.replicate 245 0) [5, 9] 2)[0] = P.cutPage (List.replicate 245 0) [5, 9] 0 := by
  simp [P.cutTo]
set_option maxRecDepth 100000 in
set_option maxHeartbeats 1600000 in
theorem awake11_any (w : World) : Calls Try.prog 34 #[] w fun e w' => e = .returned (.bool true) ∧ Below w.heap.size w w' := by
  obtain ⟨q1, q2, q3⟩ := P.cut_part (List.replicate 245 0) [5, 9] aw_fit 0 (by simp)
  have hpl : (P.part (List.replicate 245 0) 0).length = 244 := by rw [P.part_len, List.length_replicate]; omega
  have hnx : P.nextI [5, 9] 0 = 9 := rfl
  have HCUT := Lib.hid (fun a c p d w (h : Rd w a 245 (List.replicate 245 0)) (hc : 245 ≤ c) (hl : RI w p 2 [5, 9]) => cut_fun a 245 c (List.replicate 245 0) p 2 d [5, 9] w h hc hl)
  rw [aw_err, aw_L] at HCUT
  have HLEN := Lib.hid (P.cutTo_length (List.replicate 245 0) [5, 9] 2)
  have HGET := Lib.hid (aw_get (by rw [HLEN.out]; omega))
  have HPT := Lib.hid (fun a n c w (h : Rd w a n (P.cutPage (List.replicate 245 0) [5, 9] 0)) (hc : n ≤ c) => part_fun a n c _ w h hc)
  unfold PartEnd at HPT
  rw [q1, q2, q3, hnx] at HPT
  have HPL := Lib.hid hpl
  have hmk : ∀ w, (Instr.makeSlice 24 (.int .i64 245) (.int .i64 245)).run Try.prog w = .ok (.slice (some ⟨w.heap.size, 0, none⟩) 245 245) (w.alloc (.cells (zr 245) 5)) := mk_zr 245 (by omega)
  generalize P.part (List.replicate 245 0) 0 = PT at *
  generalize P.cutPage (List.replicate 245 0) [5, 9] 0 = PG at *
  clear q1 q2 q3 hpl hnx
  have hb0 : Below w.heap.size w ((w.alloc (.cells (zr 245) 5)).alloc (.cells #[.int .i64 5, .int .i64 9] 3)) := ((Below.refl _ w).alloc (Nat.le_refl _) _).alloc (by simp) _
  have hr0 : Rd ((w.alloc (.cells (zr 245) 5)).alloc (.cells #[.int .i64 5, .int .i64 9] 3)) (some ⟨w.heap.size, 0, none⟩) 245 (List.replicate 245 0) := (Rd_zr w 5 245 (by unfold maxLen; omega)).below ((Below.refl _ _).alloc (Nat.le_refl _) _)
  have hi0 : RI ((w.alloc (.cells (zr 245) 5)).alloc (.cells #[.int .i64 5, .int .i64 9] 3)) (some ⟨w.heap.size + 1, 0, none⟩) 2 [5, 9] := by
    have h := RI_lit (w.alloc (.cells (zr 245) 5)) 3 [5, 9] (fr := (0, 0)) (by simp [maxLen])
    have e : (w.alloc (.cells (zr 245) 5)).heap.size = w.heap.size + 1 := by simp
    rw [e] at h
    exact h
  have HR0 := Lib.hid hr0
  have HI0 := Lib.hid hi0
  clear hr0 hi0
  go_enter Try.func34, Try.ntmps34
  go_wp2_with fail
  refine (HCUT.out _ _ _ _ _ HR0.out (Nat.le_refl _) HI0.out).mono ?_
  rintro e w1 ⟨v1, rfl, ho1, hb1⟩
  have hbb1 := below_then hb0 hb1 hb0.size
  obtain ⟨a1, c1, hv1, hrl, -⟩ := ho1.form
  rw [HLEN.out] at hv1
  subst hv1
  obtain ⟨p, ba, ka, ca, rfl, hcell, hrd, hkc⟩ := hrl.2.2 0 (by rw [HLEN.out]; omega)
  rw [HGET.out] at hrd
  have hc0 : w1.cell? p = some (.slice ba ka ca) := by
    have e : p.add 0 = p := by unfold Addr.add; simp
    rw [e] at hcell
    exact hcell
  have HRD := Lib.hid hrd
  clear ho1 hrl hcell hrd hb1 hb0 hmk
  go_wp2_with fail
  refine (HPT.out _ _ _ _ HRD.out hkc).mono ?_
  rintro e w2 ⟨a2, n2, c2, rfl, hr2, -, -, hb2⟩
  have hn2 : n2 = 244 := by rw [← hr2.1, HPL.out]
  have hn3 : (n2 : Int) = 244 := by omega
  have hbb2 := below_then hbb1 hb2 hbb1.size
  clear hr2 hn2
  go_wp2
  go_ret
  exact ⟨rfl, hbb2⟩
end Go.Proofs.Ytpdmhnppibfmkaa
