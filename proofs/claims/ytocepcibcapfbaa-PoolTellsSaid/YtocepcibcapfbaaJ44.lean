/- The pool: New, Resident. -/
import Derived.Test.YtocepcibcapfbaaJ43
namespace Go.Proofs.Ytocepcibcapfbaa
set_option linter.unusedVariables false
set_option linter.unusedSimpArgs false
open Go.RowKit Go.Maps
variable {B o c : Nat} {w : World} {p d np N : Nat} {x : P.Po}

theorem pnew_ok (B d np N : Nat) (xd : P.Dv) (w : World) (h : DvIs B w d np xd) (hB : B ≤ w.heap.size) (hN : 8 ≤ N ∧ N ≤ 4096) (hnp : 8 ≤ np ∧ np ≤ 4096) :
    Calls Try.prog 9 #[.pointer (some ⟨d, 0, none⟩), .int .i64 (N : Int)] w fun e w' => ∃ p, e = .returned (.tuple #[.pointer (some ⟨p, 0, none⟩), .int .i64 0]) ∧ w.heap.size ≤ p ∧ PoIs B p 0 w' p d np N ⟨xd, []⟩ ∧ Below w.heap.size w w' := by
  have hmm := @run_makeMap Try.prog
  have i1 : (8 : Int) ≤ (N : Int) := by omega
  have i2 : (N : Int) ≤ 4096 := by omega
  have H := Lib.hid h
  clear h
  go_enter Try.func9, Try.ntmps9
  go_wp2
  go_ret2
  have hb : Below w.heap.size w ((w.alloc (.map #[] 0)).alloc (.cells #[.pointer (some ⟨d, 0, none⟩), .int .i64 (N : Int), .map (some w.heap.size), .slice none 0 0] 53)) := ((Below.refl _ w).alloc (Nat.le_refl _) _).alloc (by simp) _
  refine ⟨w.heap.size + 1, rfl, by omega, ⟨⟨w.heap.size, 0, fun _ => 0, .slice none 0 0, fun _ => none, ?_⟩, ?_⟩, hb⟩
  · refine ⟨?_, ⟨by omega, hB⟩, H.out.below hb, ?_, Nat.le_refl _, fun k => by simp [P.at?], OV.nil _ _ _ _, fun k hk => by simp [Value.ownBlock] at hk, fun n f hf => by simp [P.at?] at hf, fun n m f g hf => by simp [P.at?] at hf, ⟨.inr rfl, by omega⟩, ⟨by omega, hN, fun m hm => by simp at hm, by simp, hnp⟩⟩
    · have h := alloc_new (w.alloc (.map #[] 0)) (.cells #[.pointer (some ⟨d, 0, none⟩), .int .i64 (N : Int), .map (some w.heap.size), .slice none 0 0] 53) _ rfl
      simpa [poolC] using h
    · exact (Mi.made w).kept (Below.heap_alloc _ _ _ (by simp))
  · exact ⟨List.nodup_nil, fun f hf => by simp at hf, Nat.zero_le _, H.out.page⟩
/-- How Resident, Dirty end. -/
def RsE (l : List Nat) (w : World) (e : Ending) (w' : World) : Prop := ∃ v, e = .returned v ∧ OV w' w.heap.size 3 1 v l.length (ivs (l.map Int.ofNat)) ∧ Below w.heap.size w w'
theorem sorted_res (np : Nat) (x : P.Po) (ss : List Int) (hp : ((x.res np).map Int.ofNat).Perm ss) : ss.mergeSort (fun x y => decide (x ≤ y)) = (x.res np).map Int.ofNat := by
  have h1 := Go.mergeSort_of_perm_i hp
  rw [← h1]
  refine List.mergeSort_of_pairwise (List.pairwise_map.2 ?_)
  unfold P.Po.res
  refine (List.Pairwise.sublist List.filter_sublist List.pairwise_lt_range).imp (fun {a b} hab => ?_)
  simp
  omega
theorem res_mem (np : Nat) (x : P.Po) (k : Nat) : k ∈ x.res np ↔ k < np ∧ (P.at? x.l k).isSome = true := by
  unfold P.Po.res
  rw [List.mem_filter, List.mem_range]
theorem president_any (h : PoIs B o c w p d np N x) : Calls Try.prog 13 #[.pointer (some ⟨p, 0, none⟩)] w (RsE (x.res np) w) := by
  obtain ⟨⟨mb, n, F, vo, V, hs⟩, hok⟩ := h
  have HM := Lib.hid (pmade_any hs)
  obtain ⟨D, hown, hsay⟩ := hs.map
  have hperm := Mi.keys hown hsay ((x.res np).map Int.ofNat) (List.pairwise_map.2 ((List.Pairwise.sublist List.filter_sublist List.nodup_range).imp (fun hne e => hne (Int.ofNat.inj e)))) (fun k hk => by
    obtain ⟨m, hm, rfl⟩ := List.mem_map.1 hk
    have := ((res_mem np x m).1 hm).1
    have := hs.big.2.2.2.2
    show -9223372036854775808 ≤ ((m : Nat) : Int) ∧ ((m : Nat) : Int) ≤ 9223372036854775807
    omega) (fun k hk => by
    rw [hs.look k]
    by_cases h0 : 0 ≤ k
    · rw [if_pos h0, Option.isSome_map]
      constructor
      · intro hh
        obtain ⟨m, hm, rfl⟩ := List.mem_map.1 hh
        exact ((res_mem np x m).1 hm).2
      · intro hh
        obtain ⟨f, hf⟩ := Option.isSome_iff_exists.1 hh
        exact List.mem_map.2 ⟨k.toNat, (res_mem np x _).2 ⟨(hs.fr _ f hf).2.2.1, hh⟩, by show ((k.toNat : Nat) : Int) = k; omega⟩
    · rw [if_neg h0]
      constructor
      · intro hh
        obtain ⟨m, hm, rfl⟩ := List.mem_map.1 hh
        exact absurd (show (0 : Int) ≤ ((m : Nat) : Int) by omega) h0
      · simp)
  have hlen : Maps.size D = (x.res np).length := by
    have h1 := hperm.length_eq
    rw [List.length_map] at h1
    rw [h1]
    obtain ⟨es, hD, -⟩ := hown.entries keyedI
    subst hD
    simp [Maps.size, Go.intKeys]
  have hle : (x.res np).length ≤ np := by
    unfold P.Po.res
    exact Nat.le_trans (List.length_filter_le _ _) (by simp)
  have hnp := hs.big.2.2.2.2
  have HS := Lib.hid ((sortedk_any mb n D hvI w hown (by rw [hlen]; unfold maxLen; omega) (by rw [hlen]; omega)).mono (R' := fun e w' => RsE (x.res np) w e w') (fun e w' hh => by
    obtain ⟨v, ss, rfl, hS, hrow, hb⟩ := hh
    refine ⟨v, rfl, ?_, ((Below.refl _ w).alloc (Nat.le_refl _) _).trans (hb.mono (by omega))⟩
    have hso := sorted_res np x ss (hperm.trans hS.symm)
    have hl : ss.length = (x.res np).length := by rw [hS.length_eq, ← hperm.length_eq, List.length_map]
    rw [hso, hl] at hrow
    exact OV.mono hrow (by omega)))
  have HK := Lib.hid (keys_any mb w)
  have g := cell_blk hs.pool
  unfold poolC at g
  clear hs hok hown hsay hperm hlen hle hnp
  go_enter Try.func13, Try.ntmps13
  go_wp2_with fail
  refine HM.out.mono ?_
  rintro e w1 ⟨rfl, rfl⟩
  go_wp2_with fail
  refine HK.out.mono ?_
  rintro e w1 ⟨rfl, rfl⟩
  go_wp2_with fail
  refine HS.out.mono ?_
  rintro e w1 hR
  have HR := Lib.hid hR
  obtain ⟨v, rfl, -⟩ := hR
  go_wp2
  go_ret
  exact HR.out
end Go.Proofs.Ytocepcibcapfbaa
