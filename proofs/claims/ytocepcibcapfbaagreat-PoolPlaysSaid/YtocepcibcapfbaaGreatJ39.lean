/- The pool: New, Resident. -/
import Derived.Test.YtocepcibcapfbaaGreatJ38
namespace Go.Proofs.YtocepcibcapfbaaGreat
set_option linter.unusedVariables false
set_option linter.unusedSimpArgs false
set_option linter.unusedSectionVars false
open Go.RowKit Go.Maps Go.Sort Go.Shelf
variable [Inhabited AvT]
variable {B o c : Nat} {w : World} {p d np N : Nat} {x : P.Po}


theorem sortsP (m : Nat) : AnyZI.SortsIn Tryz.prog sortedP_ren Fence.wide m :=
  ⟨fun blk off cap ss W hH hblk hsz => callsIn_wide.2 (AnyM.slices_Sort_int sortP blk off cap ss W hH hblk hsz),
   fun p cap W => callsIn_wide.2 (AnyM.slices_Sort_int_none sortP p cap W)⟩
theorem keys_any (mb : Nat) (W : World) : Calls Tryz.prog 65 #[.map (some mb)] W fun e w' => e = .returned (.func (.func 82) #[] #[.pointer (some ⟨W.heap.size, 0, none⟩)]) ∧ w' = W.alloc (.cells #[.map (some mb)] 67) :=
  (callsIn_wide (n := 5)).1 (AnyZI.keys_in keysP Fence.wide 5 trivial rfl (some mb) W)
theorem sortedk_any {H : Type} (b nn : Nat) (D0 : DataW H) (R : Value → Option (DataW H × List MemPlace)) (w : World) (hown : w.ownsMap Tryz.prog 3 R b nn D0) (hmax : Maps.size D0 ≤ maxLen) (hbytes : Maps.size D0 * 8 ≤ 140737488355328) :
    Calls Tryz.prog 64 #[.func (.func 82) #[] #[.pointer (some ⟨w.heap.size, 0, none⟩)]] (w.alloc (.cells #[.map (some b)] 67)) fun e w' => ∃ (v : Value) (ss : List Int), e = .returned v ∧ ss.Perm (intKeys D0) ∧
      w'.ownsRow (w.heap.size + 1) 3 1 v ss.length ((ss.mergeSort (fun x y => decide (x ≤ y))).map encZ) ∧ Below (w.heap.size + 1) (w.alloc (.cells #[.map (some b)] 67)) w' := by
  have hbl := hown.lt
  have hseq : SeqGives Fence.wide 2 Tryz.prog 82 #[.pointer (some ⟨w.heap.size, 0, none⟩)] encZ (fun ss => ss.Perm (intKeys D0)) (Maps.size D0) (w.alloc (.cells #[.map (some b)] 67)) :=
    AnyZI.keys_gives (ρ := keysP_ren) { keysP with } Fence.wide _ trivial rfl (by omega) w.heap.size b nn D0 _ (by simp) (by simp) (by
      obtain ⟨es, clock, hb, Ft, hs, hD⟩ := hown
      exact ⟨es, clock, (Below.heap_alloc _ _ b hbl).trans hb, Ft, hs, hD⟩)
  have cS := AnyZI.sorted_in sortedP Fence.wide 5 trivial trivial trivial trivial rfl (by omega) (sortsP _) (enters_of Tryz.func81 (by kernel_rfl) rfl) 82 #[.pointer (some ⟨w.heap.size, 0, none⟩)] trivial (enters_of Tryz.func82 (by kernel_rfl) rfl) _ _ hmax hbytes _ hseq
  refine ((callsIn_wide (n := 5)).1 cS).mono ?_
  rintro e w' ⟨v, ss, rfl, hS, hrow, hnil, hb⟩
  have hz : (w.alloc (.cells #[.map (some b)] 67)).heap.size = w.heap.size + 1 := by simp
  rw [hz] at hrow hb
  exact ⟨v, ss, rfl, hS, hrow, hb⟩
end Go.Proofs.YtocepcibcapfbaaGreat
/- The pool: New, Resident. -/
namespace Go.Proofs.YtocepcibcapfbaaGreat
set_option linter.unusedVariables false
set_option linter.unusedSimpArgs false
set_option linter.unusedSectionVars false
open Go.RowKit Go.Maps
variable [Inhabited AvT]
variable {B o c : Nat} {w : World} {p d np N : Nat} {x : P.Po}

theorem pnew_ok (B d np N : Nat) (xd : P.Dv) (w : World) (h : DvIs B w d np xd) (hB : B ≤ w.heap.size) (hN : 8 ≤ N ∧ N ≤ 4096) (hnp : 8 ≤ np ∧ np ≤ 4096) :
    Calls Tryz.prog 8 #[.pointer (some ⟨d, 0, none⟩), .int .i64 (N : Int)] w fun e w' => ∃ p, e = .returned (.tuple #[.pointer (some ⟨p, 0, none⟩), .int .i64 0]) ∧ w.heap.size ≤ p ∧ PoIs B p 0 w' p d np N ⟨xd, []⟩ ∧ Below w.heap.size w w' := by
  have hmm := @run_makeMap Tryz.prog
  have i1 : (8 : Int) ≤ (N : Int) := by omega
  have i2 : (N : Int) ≤ 4096 := by omega
  have H := Lib.hid h
  clear h
  go_enter Tryz.func8, Tryz.ntmps8
  go_wp2
  go_ret2
  have hb : Below w.heap.size w ((w.alloc (.map #[] 0)).alloc (.cells #[.pointer (some ⟨d, 0, none⟩), .int .i64 (N : Int), .map (some w.heap.size), .slice none 0 0] 69)) := ((Below.refl _ w).alloc (Nat.le_refl _) _).alloc (by simp) _
  refine ⟨w.heap.size + 1, rfl, by omega, ⟨⟨w.heap.size, 0, fun _ => 0, .slice none 0 0, fun _ => none, ?_⟩, ?_⟩, hb⟩
  · refine ⟨?_, ⟨by omega, hB⟩, H.out.below hb, ?_, Nat.le_refl _, fun k => by simp [P.at?], OV.nil _ _ _ _, fun k hk => by simp [Value.ownBlock] at hk, fun n f hf => by simp [P.at?] at hf, fun n m f g hf => by simp [P.at?] at hf, ⟨.inr rfl, by omega⟩, ⟨by omega, hN, fun m hm => by simp at hm, by simp, hnp⟩⟩
    · have h := alloc_new (w.alloc (.map #[] 0)) (.cells #[.pointer (some ⟨d, 0, none⟩), .int .i64 (N : Int), .map (some w.heap.size), .slice none 0 0] 69) _ rfl
      simpa [poolC] using h
    · exact (Mi.made w).kept (Below.heap_alloc _ _ _ (by simp))
  · exact ⟨List.nodup_nil, fun f hf => by simp at hf, Nat.zero_le _, H.out.page⟩
theorem pnew_no (dv : Value) (hdv : dv = .pointer none ∨ ∃ d, dv = .pointer (some ⟨d, 0, none⟩)) (N : Int) (w : World) (h : dv = .pointer none ∨ ¬ (8 ≤ N ∧ N ≤ 4096)) :
    Calls Tryz.prog 8 #[dv, .int .i64 N] w fun e w' => e = .returned (.tuple #[.pointer none, .int .i64 1]) ∧ w = w' := by
  rcases hdv with rfl | ⟨d, rfl⟩
  · clear h
    go_enter Tryz.func8, Tryz.ntmps8
    go_wp2
    go_ret2
    exact ⟨rfl, rfl⟩
  · have h2 : ¬ (8 ≤ N ∧ N ≤ 4096) := h.resolve_left (by simp)
    clear h
    by_cases h8 : N < 8
    · clear h2
      go_enter Tryz.func8, Tryz.ntmps8
      go_wp2
      go_ret2
      exact ⟨rfl, rfl⟩
    · have i1 : 8 ≤ N := by omega
      have i2 : 4096 < N := by omega
      clear h2
      go_enter Tryz.func8, Tryz.ntmps8
      go_wp2
      go_ret2
      exact ⟨rfl, rfl⟩
/-- How Resident, Dirty end. -/
def RsE (l : List Nat) (w : World) (e : Ending) (w' : World) : Prop := ∃ v, e = .returned v ∧ OV w' w.heap.size 3 1 v l.length (ivs (l.map Int.ofNat)) ∧ Below w.heap.size w w'
theorem sorted_res (np : Nat) (x : P.Po) (ss : List Int) (hp : ((x.res np).map Int.ofNat).Perm ss) : ss.mergeSort (fun x y => decide (x ≤ y)) = (x.res np).map Int.ofNat := by
  have h1 := Go.mergeSort_of_perm_i hp
  rw [← h1]
  refine List.mergeSort_of_pairwise (List.pairwise_map.2 ?_)
  unfold P.Po.res
  refine (List.Pairwise.sublist List.filter_sublist List.pairwise_lt_range).imp (fun {a b} hab => ?_)
  simp
  omega
theorem res_mem (np : Nat) (x : P.Po) (k : Nat) : k ∈ x.res np ↔ k < np ∧ (P.at? x.l k).isSome = true := by
  unfold P.Po.res
  rw [List.mem_filter, List.mem_range]
theorem president_any (h : PoIs B o c w p d np N x) : Calls Tryz.prog 28 #[.pointer (some ⟨p, 0, none⟩)] w (RsE (x.res np) w) := by
  obtain ⟨⟨mb, n, F, vo, V, hs⟩, hok⟩ := h
  have HM := Lib.hid (pmade_any hs)
  obtain ⟨D, hown, hsay⟩ := hs.map
  have hperm := Mi.keys hown hsay ((x.res np).map Int.ofNat) (List.pairwise_map.2 ((List.Pairwise.sublist List.filter_sublist List.nodup_range).imp (fun hne e => hne (Int.ofNat.inj e)))) (fun k hk => by
    obtain ⟨m, hm, rfl⟩ := List.mem_map.1 hk
    have := ((res_mem np x m).1 hm).1
    have := hs.big.2.2.2.2
    show -9223372036854775808 ≤ ((m : Nat) : Int) ∧ ((m : Nat) : Int) ≤ 9223372036854775807
    omega) (fun k hk => by
    rw [hs.look k]
    by_cases h0 : 0 ≤ k
    · rw [if_pos h0, Option.isSome_map]
      constructor
      · intro hh
        obtain ⟨m, hm, rfl⟩ := List.mem_map.1 hh
        exact ((res_mem np x m).1 hm).2
      · intro hh
        obtain ⟨f, hf⟩ := Option.isSome_iff_exists.1 hh
        exact List.mem_map.2 ⟨k.toNat, (res_mem np x _).2 ⟨(hs.fr _ f hf).2.2.1, hh⟩, by show ((k.toNat : Nat) : Int) = k; omega⟩
    · rw [if_neg h0]
      constructor
      · intro hh
        obtain ⟨m, hm, rfl⟩ := List.mem_map.1 hh
        exact absurd (show (0 : Int) ≤ ((m : Nat) : Int) by omega) h0
      · simp)
  have hlen : Maps.size D = (x.res np).length := by
    have h1 := hperm.length_eq
    rw [List.length_map] at h1
    rw [h1]
    obtain ⟨es, hD, -⟩ := hown.entries keyedI
    subst hD
    simp [Maps.size, Go.intKeys]
  have hle : (x.res np).length ≤ np := by
    unfold P.Po.res
    exact Nat.le_trans (List.length_filter_le _ _) (by simp)
  have hnp := hs.big.2.2.2.2
  have HS := Lib.hid ((sortedk_any mb n D hvI w hown (by rw [hlen]; unfold maxLen; omega) (by rw [hlen]; omega)).mono (R' := fun e w' => RsE (x.res np) w e w') (fun e w' hh => by
    obtain ⟨v, ss, rfl, hS, hrow, hb⟩ := hh
    refine ⟨v, rfl, ?_, ((Below.refl _ w).alloc (Nat.le_refl _) _).trans (hb.mono (by omega))⟩
    have hso := sorted_res np x ss (hperm.trans hS.symm)
    have hl : ss.length = (x.res np).length := by rw [hS.length_eq, ← hperm.length_eq, List.length_map]
    rw [hso, hl] at hrow
    exact OV.mono hrow (by omega)))
  have HK := Lib.hid (keys_any mb w)
  have g := cell_blk hs.pool
  unfold poolC at g
  clear hs hok hown hsay hperm hlen hle hnp
  go_enter Tryz.func28, Tryz.ntmps28
  go_wp2_with fail
  refine HM.out.mono ?_
  rintro e w1 ⟨rfl, rfl⟩
  go_wp2_with fail
  refine HK.out.mono ?_
  rintro e w1 ⟨rfl, rfl⟩
  go_wp2_with fail
  refine HS.out.mono ?_
  rintro e w1 hR
  have HR := Lib.hid hR
  obtain ⟨v, rfl, -⟩ := hR
  go_wp2
  go_ret
  exact HR.out
end Go.Proofs.YtocepcibcapfbaaGreat
