/- The walk of chapter 11: fit. -/
import Derived.Test.YtpdmhnppibfmkaaChA
import Derived.Test.YtpdmhnppibfmkaaZr
namespace Go.Proofs.Ytpdmhnppibfmkaa
set_option linter.unusedVariables false
set_option linter.unusedSimpArgs false
open Go.RowKit

def noB : Array Value := (List.replicate 4096 (Value.bool false)).toArray
set_option maxRecDepth 100000 in
theorem mk_noB (w : World) : (Instr.makeSlice 134 (.int .i64 4096) (.int .i64 4096)).run Try.prog w = .ok (.slice (some ⟨w.heap.size, 0, none⟩) 4096 4096) (w.alloc (.cells noB 4)) := by
  have hz : (Try.prog.info? 4).map (fun i => (i.zero, i.size, i.bytes)) = some (some (.bool false), 1, 1) := by kernel_rfl
  have h := run_make_row' (P := Try.prog) 134 4 (.bool false) 1 Try.underlying134 hz rfl .i64 .i64 4096 (by omega) (by omega) w
  rw [show ((4096 : Nat) : Int) = 4096 from rfl] at h
  rw [h]
  congr 3
  apply Array.ext'
  rw [toList_madeCells_one]
  simp [noB]
theorem noB_at (i : Nat) (h : i < 4096) : noB[i]? = some (.bool false) := by
  unfold noB
  rw [List.getElem?_toArray, List.getElem?_replicate, if_pos h]
theorem memb_snoc (l : List Int) (j : Nat) (hj : j < l.length) (x : Int) : x ∈ l.take (j + 1) ↔ (x ∈ l.take j ∨ x = l[j]) := by
  rw [List.take_succ_eq_append_getElem hj, List.mem_append, List.mem_singleton]
theorem nodup_snoc (l : List Int) (j : Nat) (hj : j < l.length) (h : (l.take j).Nodup) (hn : ¬ l[j] ∈ l.take j) : (l.take (j + 1)).Nodup := by
  rw [List.take_succ_eq_append_getElem hj, List.nodup_append]
  refine ⟨h, by simp, ?_⟩
  rintro a ha b hb rfl
  simp at hb
  subst hb
  exact hn ha
theorem nodup_not (l : List Int) (j : Nat) (hj : j < l.length) (hn : l[j] ∈ l.take j) : ¬ l.Nodup := by
  intro h
  have h2 : (l.take (j + 1)).Nodup := h.sublist (List.take_sublist _ _)
  rw [List.take_succ_eq_append_getElem hj, List.nodup_append] at h2
  exact h2.2.2 _ hn _ (by simp) rfl
set_option maxRecDepth 100000 in
set_option maxHeartbeats 3200000 in
theorem fit_any (a : Option Addr) (len cap : Nat) (b : List UInt8) (p : Option Addr) (m d : Nat) (l : List Int) (w : World) (hr : Rd w a len b) (hl : RI w p m l) :
    Calls Try.prog 72 #[.slice a len cap, .slice p m d] w fun e w' => e = .returned (.bool (P.fits b l)) ∧ Below w.heap.size w w' := by
  have hbl := hr.1
  have hlm := hl.len
  have hlx := hr.2.1
  have hmx := hl.2.1
  unfold maxLen at hlx hmx
  have hND := P.need_nat len
  have HNE := fun w => need_any (len : Int) w (by omega)
  rw [hND] at HNE
  have HNE := Lib.hid HNE
  obtain ⟨F, hF⟩ : ∃ F, F = P.fits b l := ⟨_, rfl⟩
  have hFi := P.fits_iff b l
  rw [← hF] at hFi ⊢
  rw [hbl] at hFi
  have HF := Lib.hid hFi
  have HL := Lib.hid hl
  generalize P.needN len = ND at *
  clear hr hl hF hFi hND
  by_cases hm : m = ND
  case neg =>
    have hf : F = false := by
      rcases F with _ | _
      · rfl
      · have := (HF.out.1 rfl).1
        omega
    subst hf
    have hq : ((m : Int) != (ND : Int)) = true := by simp; omega
    clear hbl hlm
    go_enter Try.func72, Try.ntmps72
    go_wp2_with fail
    refine (HNE.out _).mono ?_
    rintro e w1 ⟨rfl, rfl⟩
    go_wp2
    go_ret
    exact ⟨rfl, Below.refl _ _⟩
  case pos =>
    have hq : ((m : Int) != (ND : Int)) = false := by simp [hm]
    have HM := Lib.hid hm
    have HBL := Lib.hid hbl
    have HLM := Lib.hid hlm
    have hmk := mk_noB w
    have hb0 : Below w.heap.size w (w.alloc (.cells noB 4)) := (Below.refl _ w).alloc (Nat.le_refl _) _
    have hk0 : (w.alloc (.cells noB 4)).heap[w.heap.size]? = some (.cells noB 4 (0, 0)) := alloc_new _ _ _ rfl
    have hs0 : ∀ i : Nat, i < 4096 → (w.alloc (.cells noB 4)).cell? ⟨w.heap.size, i, none⟩ = some (.bool (decide ((i : Int) ∈ l.take 0))) := fun i hi => by
      rw [cell_blk hk0 i, noB_at i hi]
      simp
    have hz0 : ∀ i : Nat, (w.alloc (.cells noB 4)).frozen? ⟨w.heap.size, i, none⟩ = false := fun i => free_blk hk0 i
    generalize hw0 : (w.alloc (.cells noB 4)) = w0 at *
    have l0 : w.heap.size < w0.heap.size := lt_of_block hk0
    have HS0 := Lib.hid hs0
    have HZ0 := Lib.hid hz0
    have HMK := Lib.hid hmk
    clear hm hbl hlm hk0 hs0 hz0 hmk
    go_enter Try.func72, Try.ntmps72
    go_wp2_with fail
    refine (HNE.out _).mono ?_
    rintro e w1 ⟨rfl, rfl⟩
    have hmk := HMK.out
    go_wp2
    go_loopw [17] (fun i wr => ∃ j : Nat, j ≤ m ∧ i = .int .i64 j ∧ (∀ x ∈ l.take j, 2 ≤ x ∧ x < 4096) ∧ (l.take j).Nodup ∧ (∀ i : Nat, i < 4096 → wr.cell? ⟨w1.heap.size, i, none⟩ = some (.bool (decide ((i : Int) ∈ l.take j)))) ∧ (∀ i : Nat, wr.frozen? ⟨w1.heap.size, i, none⟩ = false) ∧ Below w1.heap.size w1 wr) (fun i _ => m - (intOf i).toNat)
    case atStart => exact ⟨0, by omega, rfl, by simp, by simp, HS0.out, HZ0.out, hb0⟩
    case round =>
      obtain ⟨j, hj, rfl, hon, hnd, hcs, hfz, hbr⟩ := hrel
      have HON := Lib.hid hon
      have HND := Lib.hid hnd
      have HCS := Lib.hid hcs
      have HFZ := Lib.hid hfz
      clear hon hnd hcs hfz hmk
      by_cases hlt : j < m
      · have hjl : j < l.length := by have := HLM.out; omega
        obtain ⟨q, rfl, hq0⟩ := (HL.out.below hbr).at j hjl
        have hms := fun x => memb_snoc l j hjl x
        have hmem : l[j] ∈ l := List.getElem_mem hjl
        have hns := nodup_snoc l j hjl HND.out
        have hnn := nodup_not l j hjl
        generalize l[j] = x at *
        have HMS := Lib.hid hms
        have HNS := Lib.hid hns
        have HNN := Lib.hid hnn
        have HMEM := Lib.hid hmem
        clear hms hns hnn hmem
        by_cases hx : 2 ≤ x ∧ x < 4096
        case neg =>
          have hf : F = false := by
            rcases F with _ | _
            · rfl
            · exact absurd ((HF.out.1 rfl).2.1 x HMEM.out) hx
          have hd : decide (2 ≤ x ∧ x < 4096) = false := decide_eq_false hx
          have HHF := Lib.hid hf
          clear hf hx
          go_wp2_with (go_at_call 74; refine (chon_any x _).mono ?_; rintro e w9 ⟨rfl, rfl⟩; rw [hd])
          go_ret
          exact ⟨by rw [HHF.out]; rfl, hbr⟩
        case pos =>
          have hd : decide (2 ≤ x ∧ x < 4096) = true := decide_eq_true hx
          obtain ⟨X, rfl⟩ : ∃ X : Nat, x = (X : Int) := ⟨x.toNat, by omega⟩
          have hX1 : X < 4096 := by omega
          have hX2 : (X : Int) < 4096 := by omega
          have hX3 : (0 : Int) ≤ (X : Int) := by omega
          have hcX := HCS.out X hX1
          have hfX := HFZ.out X
          rcases hin : decide ((X : Int) ∈ l.take j) with _ | _
          case true =>
            rw [hin] at hcX
            have hf : F = false := by
              rcases F with _ | _
              · rfl
              · exact absurd (HF.out.1 rfl).2.2 (HNN.out (of_decide_eq_true hin))
            have HHF := Lib.hid hf
            clear hf hin
            go_wp2_with (go_at_call 74; refine (chon_any (X : Int) _).mono ?_; rintro e w9 ⟨rfl, rfl⟩; rw [hd])
            go_ret
            exact ⟨by rw [HHF.out]; rfl, hbr⟩
          case false =>
            rw [hin] at hcX
            have HIN := Lib.hid (of_decide_eq_false hin)
            clear hin
            go_wp2_with (go_at_call 74; refine (chon_any (X : Int) _).mono ?_; rintro e w9 ⟨rfl, rfl⟩; rw [hd])
            refine ⟨⟨j + 1, by omega, by first | go_num | (simp; done), ?_, HNS.out HIN.out, ?_, ?_, hbr.setCell (Nat.le_refl _) _⟩, by simp [intOf]; omega⟩
            · intro y hy
              rcases (HMS.out y).1 hy with h | h
              · exact HON.out y h
              · rw [h]; exact hx
            · intro i hi
              by_cases he : i = X
              · subst he
                rw [World.cell?_setCell_same' _ _ _ (by rw [hcX]; rfl), decide_eq_true ((HMS.out (i : Int)).2 (.inr rfl))]
              · have hne : (⟨w1.heap.size, X, none⟩ : Addr) ≠ ⟨w1.heap.size, i, none⟩ := by intro h; cases h; exact he rfl
                rw [World.cell?_setCell_other (h := hne), HCS.out i hi]
                congr 2
                apply decide_eq_decide.2
                rw [HMS.out (i : Int)]
                constructor
                · exact fun h => .inl h
                · rintro (h | h)
                  · exact h
                  · omega
            · intro i
              rw [World.frozen?_setCell]
              exact HFZ.out i
      · obtain rfl : j = m := by omega
        have hf : F = true := by
          have h1 := HON.out
          have h2 := HND.out
          have h3 := HLM.out
          rw [List.take_of_length_le (by omega)] at h1 h2
          exact HF.out.2 ⟨by rw [HLM.out, HM.out], h1, h2⟩
        have HHF := Lib.hid hf
        clear hf
        go_wp2
        go_ret
        exact ⟨by rw [HHF.out]; rfl, hbr⟩
end Go.Proofs.Ytpdmhnppibfmkaa
