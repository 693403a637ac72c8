/- The reference's pool: Resident, Dirty, Pinned, NewPool. -/
import Derived.Test.YtocepcibcapfbaaGreatJ46
import Derived.Test.YtocepcibcapfbaaGreatJ43
namespace Go.Proofs.YtocepcibcapfbaaGreat
set_option linter.unusedVariables false
set_option linter.unusedSimpArgs false
set_option linter.unusedSectionVars false
open Go.RowKit
variable [Inhabited AvT]
variable {B : Nat} {w : World} {q m np N : Nat} {x : P.Po} {L : List (P.Fr × Value)} {vl : Value}

/-- The pages of the first k that rising tells. -/
def risN (l : List P.Fr) (all : Bool) (k : Nat) : List Nat := (List.range k).filter fun n => (P.at? l n).any fun f => all || f.dirty
theorem risN_succ (l : List P.Fr) (all : Bool) (k : Nat) : risN l all (k + 1) = risN l all k ++ if ((P.at? l k).any fun f => all || f.dirty) = true then [k] else [] := by
  unfold risN
  rw [List.range_succ, List.filter_append]
  by_cases h : ((P.at? l k).any fun f => all || f.dirty) = true
  · rw [if_pos h]; simp [List.filter_cons, h]
  · rw [if_neg h]; simp [List.filter_cons, h]
theorem risN_len (l : List P.Fr) (all : Bool) (k : Nat) : (risN l all k).length ≤ k := by
  have h := List.length_filter_le (fun n => (P.at? l n).any fun f => all || f.dirty) (List.range k)
  rw [List.length_range] at h
  exact h
theorem ris_res (x : P.Po) : risN x.l true np = x.res np := by
  unfold risN P.Po.res
  refine List.filter_congr (fun n _ => ?_)
  rcases P.at? x.l n with _ | f <;> rfl
theorem ris_dirt (x : P.Po) : risN x.l false np = x.dirt np := by
  rfl
theorem ivs_snocR (l : List Nat) (k : Nat) : ivs (l.map Int.ofNat) ++ ivs [(k : Int)] = ivs ((l ++ [k]).map Int.ofNat) := by simp [ivs]
set_option maxRecDepth 100000 in
set_option maxHeartbeats 6400000 in
theorem rrising_any (h : RfP B w q m np N x) (all : Bool) : Calls Tryz.prog 66 #[.pointer (some ⟨q, 0, none⟩), .bool all] w (RsE (risN x.l all np) w) := by
  have H := Lib.hid h
  have HLEN := Lib.hid h.len
  obtain ⟨hD, ⟨L, vl, hL, hx⟩, hok, hNN⟩ := h
  obtain ⟨vs, gn, cn, vw, ao, no, co, ns, ls, Cn, hS⟩ := hD
  have hnp : (np : Int) ≤ 4096 := by have := hS.big.2.1; omega
  have hmlt := lt_of_block hS.dev
  have HC := Lib.hid (And.intro (show w.cell? ⟨m, 1, none⟩ = some (.slice (some ⟨gn, 0, none⟩) np cn) from cell_blk hS.dev 1) (And.intro hmlt (And.intro (show w.cell? ⟨q, 0, none⟩ = some (.pointer (some ⟨m, 0, none⟩)) from cell_blk hL.pool 0) hL.lt.1)))
  clear hL hx hok hNN hS hmlt
  go_enter Tryz.func66, Tryz.ntmps66
  go_wp2
  go_loopw [5, 6] (fun s5 s6 wr => ∃ k : Nat, k ≤ np ∧ s6 = .int .i64 k ∧ OV wr w.heap.size 3 1 s5 (risN x.l all k).length (ivs ((risN x.l all k).map Int.ofNat)) ∧ Below w.heap.size w wr) (fun _ s6 _ => np - (intOf s6).toNat)
  case atStart => exact ⟨0, Nat.zero_le _, rfl, by simpa [risN, ivs] using OV.nil _ _ _ _, Below.refl _ _⟩
  case round =>
    obtain ⟨k, hk, rfl, ho, hb⟩ := hrel
    obtain ⟨r, hr⟩ : ∃ r, r = risN x.l all k := ⟨_, rfl⟩
    have hrl := risN_len x.l all k
    rw [← hr] at ho hrl
    obtain ⟨a5, c5, hv5, -⟩ := ho.form
    subst hv5
    have g0 := (hb.cell (p := ⟨q, 0, none⟩) HC.out.2.2.2).trans HC.out.2.2.1
    have g1 := (hb.cell (p := ⟨m, 1, none⟩) HC.out.2.1).trans HC.out.1
    have HO := Lib.hid ho
    have HB := Lib.hid hb
    have HRR := Lib.hid hr
    clear ho hr
    by_cases hlt : k < np
    · have i0 : (0 : Int) ≤ (k : Int) := by omega
      have i1 : (k : Int) < (np : Int) := by omega
      have HFD := Lib.hid (rfindx (H.out.below hb) (k : Int) (by unfold inI; omega))
      clear hb
      go_wp2_with fail
      refine HFD.out.mono ?_
      rintro e w1 ⟨hb1, hfd⟩
      have HB1 := Lib.hid (HB.out.trans (hb1.mono HB.out.size))
      have HO1 := Lib.hid (HO.out.below hb1)
      clear hb1 g0 g1
      have hsucc := risN_succ x.l all k
      rw [← HRR.out] at hsucc
      rcases hfd with ⟨rfl, hno⟩ | ⟨i, hi, rfl, hni, hat⟩
      · have hat := hno (by omega)
        rw [Int.toNat_natCast] at hat
        rw [hat] at hsucc
        simp only [Option.any_none, Bool.false_eq_true, if_false, List.append_nil] at hsucc
        have HS := Lib.hid (show OV w1 w.heap.size 3 1 (.slice a5 r.length c5) (risN x.l all (k + 1)).length (ivs ((risN x.l all (k + 1)).map Int.ofNat)) by rw [hsucc]; exact HO1.out)
        clear hno hat hsucc
        go_wp2
        exact ⟨⟨k + 1, by omega, by go_num, HS.out, HB1.out⟩, by simp [intOf]; omega⟩
      · rw [Int.toNat_natCast] at hat
        rw [hat] at hsucc
        obtain ⟨-, ⟨L, vl, hL, hx⟩, -, -⟩ := H.out.below HB1.out
        obtain ⟨hiL, hfi⟩ := get_fst hx i hi
        obtain ⟨g, cp, a, l, c, hvl, g2, hqg, hae, hrb, c0, c1, c2, c3⟩ := hL.cellsAt i hiL
        subst hvl
        rw [← hfi] at c2
        obtain ⟨d, hd⟩ : ∃ d, d = x.l[i].dirty := ⟨_, rfl⟩
        rw [← hd] at c2
        simp only [Option.any_some] at hsucc
        simp only [← hd] at hsucc
        obtain ⟨K, hK⟩ : ∃ K, K = L.length := ⟨_, rfl⟩
        rw [← hK] at g2
        have j1 : (i : Int) < (K : Int) := by omega
        have j0 : (0 : Int) ≤ (i : Int) := by omega
        have j2 : ¬ (i : Int) < 0 := by omega
        have hb1 : (r.length + 1) * 8 ≤ 140737488355328 := by omega
        have hb2 : r.length + 1 ≤ 140737488355328 := by omega
        have HSZ := Lib.hid HB1.out.size
        have HAL := Lib.hid ((Below.refl w1.heap.size w1).alloc (Nat.le_refl _) (.cells #[.int .i64 (k : Int)] 3))
        have HRL := Lib.hid (RI_lit w1 3 [(k : Int)] (fr := (0, 0)) (by unfold maxLen; simp))
        have HLO := Lib.hid (show w.heap.size ≤ (w1.alloc (.cells #[.int .i64 (k : Int)] 3)).heap.size from Nat.le_trans HSZ.out HAL.out.size)
        have hyes : (all || d) = true → ∀ v6 w6, OV w6 w.heap.size 3 1 v6 (r.length + 1) (ivs (r.map Int.ofNat) ++ ivs [(k : Int)]) → OV w6 w.heap.size 3 1 v6 (risN x.l all (k + 1)).length (ivs ((risN x.l all (k + 1)).map Int.ofNat)) := fun h0 v6 w6 ho => by
          rw [hsucc, if_pos h0, List.length_append, ← ivs_snocR]
          exact ho
        have hnot : (all || d) = false → OV w1 w.heap.size 3 1 (.slice a5 r.length c5) (risN x.l all (k + 1)).length (ivs ((risN x.l all (k + 1)).map Int.ofNat)) := fun h0 => by
          rw [hsucc, if_neg (by rw [h0]; simp), List.append_nil]
          exact HO1.out
        have HY := Lib.hid hyes
        have HNT := Lib.hid hnot
        clear hat hni hx hL hfi hae hrb hd hK hsucc hyes hnot c0 c1 c3 hi hiL hrl
        rcases all with _ | _
        · rcases d with _ | _
          · have HS := Lib.hid (HNT.out rfl)
            go_wp2
            exact ⟨⟨k + 1, by omega, by go_num, HS.out, HB1.out⟩, by simp [intOf]; omega⟩
          · go_wp2_with (at_builtin; refine wpList_appV intsT _ rfl _ _ rfl w.heap.size _ r.length _ rfl (HO1.out.alloc _) (some ⟨w1.heap.size, 0, none⟩) 1 1 (ivs [(k : Int)]) rfl HRL.out (ivs_one _) hb1 hb2 HLO.out ?_)
            intro v6 w6 ho6 hg6 hat6
            have hb6 := (HO1.out.alloc _).grown (HB1.out.trans (HAL.out.mono HSZ.out)) HLO.out hg6
            have ho7 := HY.out rfl v6 w6 ho6
            obtain ⟨a6, c6, hv6, -⟩ := ho6.form
            subst hv6
            have HS := Lib.hid (And.intro ho7 hb6)
            clear ho6 hg6 hat6 hb6 ho7 c2 g2
            go_wp2
            exact ⟨⟨k + 1, by omega, by go_num, HS.out.1, HS.out.2⟩, by simp [intOf]; omega⟩
        · go_wp2_with (at_builtin; refine wpList_appV intsT _ rfl _ _ rfl w.heap.size _ r.length _ rfl (HO1.out.alloc _) (some ⟨w1.heap.size, 0, none⟩) 1 1 (ivs [(k : Int)]) rfl HRL.out (ivs_one _) hb1 hb2 HLO.out ?_)
          intro v6 w6 ho6 hg6 hat6
          have hb6 := (HO1.out.alloc _).grown (HB1.out.trans (HAL.out.mono HSZ.out)) HLO.out hg6
          have ho7 := HY.out rfl v6 w6 ho6
          obtain ⟨a6, c6, hv6, -⟩ := ho6.form
          subst hv6
          have HS := Lib.hid (And.intro ho7 hb6)
          clear ho6 hg6 hat6 hb6 ho7 c2 g2
          go_wp2
          exact ⟨⟨k + 1, by omega, by go_num, HS.out.1, HS.out.2⟩, by simp [intOf]; omega⟩
    · obtain rfl : k = np := by omega
      have HF := Lib.hid (show RsE (risN x.l all k) w (.returned (.slice a5 r.length c5)) wr from ⟨_, rfl, by rw [← HRR.out]; exact HO.out, hb⟩)
      clear hb
      go_wp2
      go_ret
      exact HF.out
theorem rresident_any (h : RfP B w q m np N x) : Calls Tryz.prog 29 #[.pointer (some ⟨q, 0, none⟩)] w (RsE (x.res np) w) := by
  have HR := Lib.hid (rrising_any h true)
  rw [ris_res] at HR
  clear h
  go_enter Tryz.func29, Tryz.ntmps29
  go_wp2_with fail
  refine HR.out.mono ?_
  rintro e w1 ⟨v, rfl, ho, hb⟩
  have HF := Lib.hid (show RsE (x.res np) w (.returned v) w1 from ⟨v, rfl, ho, hb⟩)
  clear ho hb
  go_wp2
  go_ret
  exact HF.out
theorem rdirty_any (h : RfP B w q m np N x) : Calls Tryz.prog 31 #[.pointer (some ⟨q, 0, none⟩)] w (RsE (x.dirt np) w) := by
  have HR := Lib.hid (rrising_any h false)
  rw [ris_dirt] at HR
  clear h
  go_enter Tryz.func31, Tryz.ntmps31
  go_wp2_with fail
  refine HR.out.mono ?_
  rintro e w1 ⟨v, rfl, ho, hb⟩
  have HF := Lib.hid (show RsE (x.dirt np) w (.returned v) w1 from ⟨v, rfl, ho, hb⟩)
  clear ho hb
  go_wp2
  go_ret
  exact HF.out
theorem rpinnedx (h : RfP B w q m np N x) : Calls Tryz.prog 33 #[.pointer (some ⟨q, 0, none⟩)] w fun e w' => e = .returned (.int .i64 (x.pinned : Int)) ∧ Below w.heap.size w w' := by
  have hl := h.len
  obtain ⟨hD, ⟨L, vl, hL, hx⟩, hok, hNN⟩ := h
  obtain ⟨av, cp, hvl, hrv, hcp, -, -⟩ := hL.row.form
  subst hvl
  have e : pnN L L.length = x.pinned := by
    unfold pnN P.Po.pinned
    rw [List.take_length, ← hx, List.filter_map, List.length_map]
    rfl
  have h1 := rpinned_any q m N av cp L w hL.pool hrv (by rw [← hx, List.length_map] at hl; omega)
  rw [e] at h1
  exact h1
end Go.Proofs.YtocepcibcapfbaaGreat
