/- The walk of chapter 11: the reference's Cut, where the pages are not fit. -/
import Derived.Test.YtpdmhnppibfmkaaChG
namespace Go.Proofs.Ytpdmhnppibfmkaa
set_option linter.unusedVariables false
set_option linter.unusedSimpArgs false
open Go.RowKit

theorem nodup_in (l : List Int) (i k : Nat) (hk : k < i) (hi : i < l.length) (e : l[k] = l[i]) : l[i] ∈ l.take i := by
  rw [List.mem_take_iff_getElem]
  exact ⟨k, by omega, e⟩
theorem nodup_ne (l : List Int) (h : l.Nodup) (i k : Nat) (hk : k < i) (hi : i < l.length) : l[k] ≠ l[i] := fun e => nodup_not l i hi (nodup_in l i k hk hi e) h
theorem nodup_out (l : List Int) (i : Nat) (hi : i < l.length) (h : ∀ k (hk : k < i), l[k] ≠ l[i]) : ¬ l[i] ∈ l.take i := by
  rw [List.mem_take_iff_getElem]
  rintro ⟨k, hk, e⟩
  exact h k (by omega) e
set_option maxRecDepth 100000 in
set_option maxHeartbeats 3200000 in
theorem rcut_bad (a : Option Addr) (len cap : Nat) (b : List UInt8) (p : Option Addr) (m d : Nat) (l : List Int) (w : World) (hr : Rd w a len b) (hl : RI w p m l) (hf : P.fits b l = false) :
    Calls Try.prog 37 #[.slice a len cap, .slice p m d] w fun e w' => e = .returned (.tuple #[.slice none 0 0, .int .i64 1]) ∧ Below w.heap.size w w' := by
  have hbl := hr.1
  have hlm := hl.len
  have hlx := hr.2.1
  have hmx := hl.2.1
  unfold maxLen at hlx hmx
  have hND := P.need_nat len
  have HNE := fun w => rneed_any (len : Int) w (by omega)
  rw [hND] at HNE
  have HNE := Lib.hid HNE
  have hFi := (P.fits_iff b l)
  rw [hbl] at hFi
  have hno : ¬ (l.length = P.needN len ∧ (∀ p ∈ l, 2 ≤ p ∧ p < 4096) ∧ l.Nodup) := fun h => by
    have := hFi.2 h
    rw [hf] at this
    cases this
  have HNO := Lib.hid hno
  have HL := Lib.hid hl
  have HLM := Lib.hid hlm
  generalize P.needN len = ND at *
  clear hr hl hf hFi hbl hlm hno hND
  by_cases hm : m = ND
  case neg =>
    have hq : ((m : Int) != (ND : Int)) = true := by simp; omega
    go_enter Try.func37, Try.ntmps37
    go_wp2_with fail
    refine (HNE.out _).mono ?_
    rintro e w1 ⟨rfl, rfl⟩
    go_wp2
    go_ret2
    exact ⟨rfl, Below.refl _ _⟩
  case pos =>
    have hq : ((m : Int) != (ND : Int)) = false := by simp [hm]
    have HM := Lib.hid hm
    clear hm
    go_enter Try.func37, Try.ntmps37
    go_wp2_with fail
    refine (HNE.out _).mono ?_
    rintro e w1 ⟨rfl, rfl⟩
    go_wp2
    go_loopw [6] (fun i wr => ∃ j : Nat, j ≤ m ∧ i = .int .i64 j ∧ (∀ x ∈ l.take j, 2 ≤ x ∧ x < 4096) ∧ (l.take j).Nodup ∧ Below w1.heap.size w1 wr) (fun i _ => m - (intOf i).toNat)
    case atStart => exact ⟨0, by omega, rfl, by simp, by simp, Below.refl _ _⟩
    case round =>
      obtain ⟨j, hj, rfl, hon, hnd, hbr⟩ := hrel
      have HON := Lib.hid hon
      have HND := Lib.hid hnd
      clear hon hnd
      by_cases hlt : j < m
      · have hjl : j < l.length := by have := HLM.out; omega
        obtain ⟨q, rfl, hq0⟩ := (HL.out.below hbr).at j hjl
        have hqa := fun w' (hb : Below w1.heap.size w1 w') k (hk : k < l.length) => show w'.cell? (q.add k) = some (.int .i64 l[k]) by
          obtain ⟨p', e, h⟩ := (HL.out.below hb).at k hk
          cases e
          exact h
        have HQA := Lib.hid hqa
        have hms := fun x => memb_snoc l j hjl x
        have hns := nodup_snoc l j hjl HND.out
        have hin := fun k hk e => nodup_not l j hjl (nodup_in l j k hk hjl e)
        have hout := nodup_out l j hjl
        have hnon : ¬ (2 ≤ l[j] ∧ l[j] < 4096) → True := fun _ => trivial
        obtain ⟨x, hx⟩ : ∃ x, x = l[j] := ⟨_, rfl⟩
        rw [← hx] at hq0 hms hns hin hout
        have HMS := Lib.hid hms
        have HNS := Lib.hid hns
        have HIN := Lib.hid hin
        have HOUT := Lib.hid hout
        have HX := Lib.hid hx
        clear hms hns hin hout hqa hx hnon
        by_cases hx1 : x < 2
        · go_wp2
          go_ret2
          exact ⟨rfl, hbr⟩
        by_cases hx2 : 4096 ≤ x
        · go_wp2
          go_ret2
          exact ⟨rfl, hbr⟩
        go_wp2
        go_loopw [7] (fun i ws => ∃ k : Nat, k ≤ j ∧ i = .int .i64 k ∧ (∀ k' (hk : k' < k) (h : k' < l.length), l[k'] ≠ x) ∧ Below w1.heap.size w1 ws) (fun i _ => j - (intOf i).toNat)
        case atStart => exact ⟨0, by omega, rfl, fun k' hk => by omega, hbr⟩
        case round =>
          obtain ⟨k, hk, rfl, hne, hbs⟩ := hrel
          have HNEQ := Lib.hid hne
          clear hne
          by_cases hkj : k < j
          · have hkl : k < l.length := by omega
            have hk0 := HQA.out _ hbs k hkl
            have hj0 := HQA.out _ hbs j hjl
            rw [← HX.out] at hj0
            obtain ⟨y, hy⟩ : ∃ y, y = l[k] := ⟨_, rfl⟩
            rw [← hy] at hk0
            have HY := Lib.hid hy
            clear hy
            have hbd : Below w1.heap.size w1 wr.drew := ⟨hbs.os, hbs.tape, hbs.output, hbs.size, hbs.block⟩
            by_cases hxy : y = x
            · have ht : (y == x) = true := by simp [hxy]
              have HXY := Lib.hid hxy
              clear hxy
              go_wp2
              go_quiet (fail)
              go_wp2
              go_ret2
              exact ⟨rfl, below_drewN hbs _⟩
            · have ht : (y == x) = false := by simp [hxy]
              have HXY := Lib.hid hxy
              clear hxy
              go_wp2
              go_quiet (fail)
              go_wp2
              refine ⟨⟨k + 1, by omega, by go_num, ?_, below_drewN hbs _⟩, by simp [intOf]; omega⟩
              intro k' hk' h'
              rcases Nat.lt_or_ge k' k with h0 | h0
              · exact HNEQ.out k' h0 h'
              · obtain rfl : k' = k := by omega
                rw [← HY.out]
                exact HXY.out
          · obtain rfl : k = j := by omega
            have hno := HOUT.out (fun k' hk' => HNEQ.out k' hk' (by omega))
            have HNO2 := Lib.hid hno
            clear hno
            go_wp2
            refine ⟨⟨k + 1, by omega, by first | go_num | (simp; done), ?_, HNS.out HNO2.out, hbs⟩, by simp [intOf]; omega⟩
            intro y hy
            rcases (HMS.out y).1 hy with h | h
            · exact HON.out y h
            · rw [h]; omega
      · exfalso
        have h1 := HON.out
        have h2 := HND.out
        have h3 := HLM.out
        rw [List.take_of_length_le (by omega)] at h1 h2
        exact HNO.out ⟨by rw [h3, HM.out], h1, h2⟩
end Go.Proofs.Ytpdmhnppibfmkaa
