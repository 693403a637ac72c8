/- Law 9: the deeds; room. -/
import Derived.Test.YtocepcibcapfbaaJ51
import Derived.Test.YtocepcibcapfbaaJ04
namespace Go.Proofs.Ytocepcibcapfbaa
set_option linter.unusedVariables false
set_option linter.unusedSimpArgs false
open Go.RowKit

/-- Is there room for the deeds? -/
def roomB (l : List Deed) : Prop := l.length ≤ 200 ∧ ∀ q ∈ l, (∀ a m c, q.b = .slice a m c → m ≤ 100) ∧ q.n ≤ 1048576
set_option maxRecDepth 100000 in
set_option maxHeartbeats 3200000 in
theorem room9_any (a : Option Addr) (n cap : Nat) (l : List Deed) (w : World) (hl : RD w a n l) : Calls Try.prog 16 #[.slice a n cap] w fun e w' => ∃ r : Bool, e = .returned (.bool r) ∧ (r = true → roomB l) ∧ Below w.heap.size w w' := by
  have HL := Lib.hid hl
  have HLN := Lib.hid hl.len
  clear hl
  by_cases h200 : n ≤ 200
  rotate_left
  · have g : (200 : Int) < (n : Int) := by omega
    clear h200
    go_enter Try.func16, Try.ntmps16
    go_wp2
    go_ret
    exact ⟨false, rfl, (fun h => by cases h), Below.refl _ _⟩
  have g : (n : Int) ≤ 200 := by omega
  go_enter Try.func16, Try.ntmps16
  go_wp2
  go_loopw [3] (fun s3 wr => ∃ k : Nat, k ≤ n ∧ s3 = .int .i64 k ∧ (∀ q ∈ l.take k, (∀ a m c, q.b = .slice a m c → m ≤ 100) ∧ q.n ≤ 1048576) ∧ Below w.heap.size w wr) (fun s3 _ => n - (ivOf s3).toNat)
  case atStart => exact ⟨0, Nat.zero_le _, rfl, fun q hq => by simp at hq, Below.refl _ _⟩
  case round =>
    obtain ⟨k, hk, rfl, hq, hb⟩ := hrel
    by_cases hlt : k < n
    · have i0 : (0 : Int) ≤ (k : Int) := by omega
      have i1 : (k : Int) < (n : Int) := by omega
      have hkl : k < l.length := by rw [HLN.out]; exact hlt
      obtain ⟨p, rfl, -, hc1, -, -, hc4⟩ := (HL.out.below hb).at k hkl
      obtain ⟨-, -, -, ab, mb, cb, bs, hbe, -⟩ := (HL.out.below hb).2 l[k] (List.getElem_mem _)
      rw [hbe] at hc4
      have hsn : ∀ q ∈ l.take (k + 1), q ∈ l.take k ∨ q = l[k] := fun q hq => by
        rw [List.take_succ_eq_append_getElem hkl, List.mem_append, List.mem_singleton] at hq
        exact hq
      have HQ := Lib.hid (And.intro hq (And.intro hsn hbe))
      have HB := Lib.hid hb
      obtain ⟨z, hz⟩ : ∃ z, z = l[k].n := ⟨_, rfl⟩
      rw [← hz] at hc1
      have HZ := Lib.hid hz
      clear hq hsn hbe hz hb
      by_cases hm : mb ≤ 100
      · have m1 : (mb : Int) ≤ 100 := by omega
        by_cases hn : z ≤ 1048576
        · have HN := Lib.hid (show ∀ q ∈ l.take (k + 1), (∀ a m c, q.b = .slice a m c → m ≤ 100) ∧ q.n ≤ 1048576 from fun q hq => by
            rcases HQ.out.2.1 q hq with h | rfl
            · exact HQ.out.1 q h
            · refine ⟨fun a m c e => ?_, by rw [← HZ.out]; exact hn⟩
              rw [HQ.out.2.2] at e
              cases e
              exact hm)
          go_wp2
          exact ⟨⟨k + 1, by omega, by go_num, HN.out, HB.out⟩, by simp [ivOf]; omega⟩
        · have hn2 : (1048576 : Int) < z := by omega
          clear hn
          go_wp2
          go_ret
          exact ⟨false, rfl, (fun h => by cases h), HB.out⟩
      · have m1 : (100 : Int) < (mb : Int) := by omega
        clear hm
        go_wp2
        go_ret
        exact ⟨false, rfl, (fun h => by cases h), HB.out⟩
    · obtain rfl : k = n := by omega
      have HQ := Lib.hid (show roomB l from ⟨by rw [HLN.out]; exact h200, fun q h => hq q (by rw [← HLN.out, List.take_length]; exact h)⟩)
      have HB := Lib.hid hb
      clear hq hb
      go_wp2
      go_ret
      exact ⟨true, rfl, fun _ => HQ.out, HB.out⟩
end Go.Proofs.Ytocepcibcapfbaa
