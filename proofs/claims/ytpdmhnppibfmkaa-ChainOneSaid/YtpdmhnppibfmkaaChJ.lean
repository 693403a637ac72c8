/- The walks of chapter 11: the law's pages (are two lists of pages the same?), awake. -/
import Derived.Test.YtpdmhnppibfmkaaChG
import Derived.Test.YtpdmhnppibfmkaaChB
import Derived.Test.YtpdmhnppibfmkaaSame
namespace Go.Proofs.Ytpdmhnppibfmkaa
set_option linter.unusedVariables false
set_option linter.unusedSimpArgs false
open Go.RowKit

/-- A slice that reads as these rows of bytes. -/
def RL (w : World) (a : Option Addr) (n : Nat) (L : List (List UInt8)) : Prop :=
  L.length = n ∧ n ≤ maxLen ∧ ∀ i (h : i < L.length), ∃ p b k c, a = some p ∧ w.cell? (p.add i) = some (.slice b k c) ∧ Rd w b k L[i] ∧ k ≤ c
theorem RL.below {w w' : World} {a : Option Addr} {n : Nat} {L : List (List UInt8)} (h : RL w a n L) (hb : Below w.heap.size w w') : RL w' a n L :=
  ⟨h.1, h.2.1, fun i hi => by
    obtain ⟨p, b, k, c, h1, h2, h3, h4⟩ := h.2.2 i hi
    exact ⟨p, b, k, c, h1, (hb.cell (lt_of_cell h2)).trans h2, h3.below hb, h4⟩⟩
theorem RL.drewN {w : World} {a : Option Addr} {n : Nat} {L : List (List UInt8)} (h : RL w a n L) (j : Nat) : RL (w.drewN j) a n L :=
  h.below (below_drewN (Below.refl _ _) j)
theorem OL.form {w : World} {n : Nat} {v : Value} {L : List (List UInt8)} (h : OL w n v L) : ∃ a c, v = .slice a L.length c ∧ RL w a L.length L ∧ L.length ≤ c := by
  obtain ⟨vs, h1, h2, h3⟩ := h
  obtain ⟨a, c, rfl, hr, hc, -⟩ := h1.form
  refine ⟨a, c, rfl, ⟨rfl, hr.2.1, fun i hi => ?_⟩, hc⟩
  obtain ⟨p, hp, hcell⟩ := hr.at i (by omega)
  have ho := h3 i vs[i] L[i] (List.getElem?_eq_getElem (by omega)) (List.getElem?_eq_getElem hi)
  obtain ⟨b, cb, hv, hrd, hcc, -⟩ := ho.form
  exact ⟨p, b, L[i].length, cb, hp, by rw [hcell, hv], hrd, hcc⟩
def eqL : List (List UInt8) → List (List UInt8) → Bool := fun a b => decide (a = b)
set_option maxRecDepth 100000 in
set_option maxHeartbeats 3200000 in
theorem pages_any (a b : Option Addr) (n m ca cb : Nat) (A B : List (List UInt8)) (w : World) (ha : RL w a n A) (hb : RL w b m B) :
    Calls Try.prog 38 #[.slice a n ca, .slice b m cb] w fun e w' => e = .returned (.bool (decide (A = B))) ∧ Below w.heap.size w w' := by
  have hla := ha.1
  have hlb := hb.1
  have hma := ha.2.1
  have hmb := hb.2.1
  unfold maxLen at hma hmb
  obtain ⟨F, hF⟩ : ∃ F, F = decide (A = B) := ⟨_, rfl⟩
  rw [← hF]
  have HA := Lib.hid ha
  have HB := Lib.hid hb
  have HLA := Lib.hid hla
  have HLB := Lib.hid hlb
  by_cases hn : n = m
  case neg =>
    have hf : F = false := by rw [hF]; apply decide_eq_false; rintro rfl; omega
    subst hf
    have hq : ((n : Int) != (m : Int)) = true := by simp; omega
    clear ha hb hF hla hlb
    go_enter Try.func38, Try.ntmps38
    go_wp2
    go_ret
    exact ⟨rfl, Below.refl _ _⟩
  case pos =>
    subst hn
    have hq : ((n : Int) != (n : Int)) = false := by simp
    have hbad : ∀ j (h : j < A.length) (h' : j < B.length), A[j] ≠ B[j] → F = false := fun j h h' hne => by
      rw [hF]
      apply decide_eq_false
      rintro rfl
      exact hne rfl
    have hgood : (∀ j (h : j < A.length) (h' : j < B.length), A[j] = B[j]) → F = true := fun h => by
      rw [hF]
      apply decide_eq_true
      exact List.ext_getElem (by omega) (fun j h1 h2 => h j h1 h2)
    have HBAD := Lib.hid hbad
    have HGOOD := Lib.hid hgood
    clear ha hb hF hla hlb hbad hgood
    go_enter Try.func38, Try.ntmps38
    go_wp2
    go_loopw [5] (fun i wr => ∃ j : Nat, j ≤ n ∧ i = .int .i64 j ∧ (∀ k (h : k < A.length) (h' : k < B.length), k < j → A[k] = B[k]) ∧ Below w.heap.size w wr) (fun i _ => n - (intOf i).toNat)
    case atStart => exact ⟨0, by omega, rfl, fun k _ _ h => by omega, Below.refl _ _⟩
    case round =>
      obtain ⟨j, hj, rfl, hpre, hbr⟩ := hrel
      have HPRE := Lib.hid hpre
      clear hpre
      by_cases hlt : j < n
      · have hjA : j < A.length := by have := HLA.out; omega
        have hjB : j < B.length := by have := HLB.out; omega
        obtain ⟨p, ba, ka, cka, rfl, hp, hra, -⟩ := (HA.out.below hbr).2.2 j hjA
        obtain ⟨q, bb, kb, ckb, rfl, hq2, hrb, -⟩ := (HB.out.below hbr).2.2 j hjB
        have hp1 := HPRE.out
        have hstep : A[j] = B[j] → ∀ k (h : k < A.length) (h' : k < B.length), k < j + 1 → A[k] = B[k] := fun he k h h' hk => by
          rcases Nat.lt_or_ge k j with h0 | h0
          · exact hp1 k h h' h0
          · obtain rfl : k = j := by omega
            exact he
        have hbd := HBAD.out j hjA hjB
        have HSTEP := Lib.hid hstep
        have HBD := Lib.hid hbd
        have hsame := fun w (h1 : Rd w ba ka A[j]) (h2 : Rd w bb kb B[j]) => same_b ba bb ka kb cka ckb A[j] B[j] w h1 h2
        have HS := Lib.hid hsame
        have HRA := Lib.hid hra
        have HRB := Lib.hid hrb
        clear hp1 hstep hbd hsame hra hrb
        have hB : Below wr.heap.size wr wr.drew := ⟨rfl, rfl, rfl, Nat.le_refl _, fun _ _ => rfl⟩
        have kp : ∀ w', Below wr.heap.size wr w' → w'.cell? (p.add j) = some (.slice ba ka cka) ∧ w'.cell? (q.add j) = some (.slice bb kb ckb) := fun w' h => ⟨(h.cell (lt_of_cell hp)).trans hp, (h.cell (lt_of_cell hq2)).trans hq2⟩
        have KP := Lib.hid kp
        have j1 : (0 : Int) ≤ (j : Int) := by omega
        have j2 : (j : Int) < (n : Int) := by omega
        clear kp
        rcases he : decide (A[j] = B[j]) with _ | _
        case false =>
          rw [he] at HS
          have hf := HBD.out (of_decide_eq_false he)
          have HHF := Lib.hid hf
          clear he hf
          go_wp2
          go_region_held3 (fun w' => w'.cell? (p.add j) = some (.slice ba ka cka) ∧ w'.cell? (q.add j) = some (.slice bb kb ckb))
            (first
              | exact KP.out _ hB
              | exact KP.out _ (below_then hB ‹_› hB.size))
            (first
              | (go_at_call 22; refine (HS.out _ (HRA.out.below hB) (HRB.out.below hB)).mono ?_; rintro e wp ⟨rfl, hbp⟩))
          all_goals
            go_wp2
            go_ret
            exact ⟨by rw [HHF.out]; rfl, below_then hbr (below_then hB hbp hB.size) hbr.size⟩
        case true =>
          rw [he] at HS
          have hst := HSTEP.out (of_decide_eq_true he)
          have HST := Lib.hid hst
          clear he hst
          go_wp2
          go_region_held3 (fun w' => w'.cell? (p.add j) = some (.slice ba ka cka) ∧ w'.cell? (q.add j) = some (.slice bb kb ckb))
            (first
              | exact KP.out _ hB
              | exact KP.out _ (below_then hB ‹_› hB.size))
            (first
              | (go_at_call 22; refine (HS.out _ (HRA.out.below hB) (HRB.out.below hB)).mono ?_; rintro e wp ⟨rfl, hbp⟩))
          all_goals
            have hbb := below_then hbr (below_then hB hbp hB.size) hbr.size
            go_wp2
            exact ⟨⟨j + 1, by omega, by first | go_num | (simp; done), HST.out, hbb⟩, by simp [intOf]; omega⟩
      · obtain rfl : j = n := by omega
        have hf := HGOOD.out (fun k h h' => HPRE.out k h h' (by have := HLA.out; omega))
        have HHF := Lib.hid hf
        clear hf
        go_wp2
        go_ret
        exact ⟨by rw [HHF.out]; rfl, hbr⟩
end Go.Proofs.Ytpdmhnppibfmkaa
