/- The walk of page.Seal. -/
import Derived.Test.YtpdmhnppibfmkaaPgA
import Derived.LoopN
namespace Go.Proofs.Ytpdmhnppibfmkaa
set_option linter.unusedVariables false
set_option linter.unusedSimpArgs false
open Go.RowKit

theorem sealErr_cases (k l c : Int) (n : Nat) : (P.sealErr k l c n = 1 ∧ (k < 1 ∨ 5 < k ∨ l < 0 ∨ 255 < l ∨ c < 0 ∨ 65535 < c)) ∨
    ((1 ≤ k ∧ k ≤ 5 ∧ 0 ≤ l ∧ l ≤ 255 ∧ 0 ≤ c ∧ c ≤ 65535) ∧ ((P.sealErr k l c n = 3 ∧ 248 < n) ∨ (P.sealErr k l c n = 0 ∧ n ≤ 248))) := by
  unfold P.sealErr
  split
  · exact .inl ⟨rfl, by assumption⟩
  · right
    refine ⟨by omega, ?_⟩
    split
    · exact .inl ⟨rfl, by assumption⟩
    · exact .inr ⟨rfl, by omega⟩

set_option maxRecDepth 100000 in
set_option maxHeartbeats 800000 in
theorem seal_bad (k l c : Int) (a : Option Addr) (n m : Nat) (w : World) (hn : (n : Int) ≤ 9223372036854775807) (he : P.sealErr k l c n ≠ 0) :
    Calls Try.prog 54 #[.agg #[.int .i64 k, .int .i64 l, .int .i64 c, .slice a n m]] w fun e w' =>
      e = .returned (.tuple #[.slice none 0 0, .int .i64 (P.sealErr k l c n)]) ∧ Below w.heap.size w w' := by
  rcases sealErr_cases k l c n with ⟨h1, h2⟩ | ⟨h1, h2⟩
  · have hq : ((((k < 1 ∨ 5 < k) ∨ l < 0) ∨ 255 < l) ∨ c < 0) ∨ 65535 < c := by omega
    rw [h1]
    clear h1 h2 he
    go_enter Try.func54, Try.ntmps54
    go_wp2
    all_goals
      go_ret2
      exact ⟨rfl, (Below.refl _ w).alloc (Nat.le_refl _) _⟩
  · rcases h2 with ⟨h2, h3⟩ | ⟨h2, h3⟩
    · rw [h2]
      obtain ⟨b1, b2, b3, b4, b5, b6⟩ := h1
      have c1 : decide (k < 1) = false := decide_eq_false (by omega)
      have c2 : decide (5 < k) = false := decide_eq_false (by omega)
      have c3 : decide (l < 0) = false := decide_eq_false (by omega)
      have c4 : decide (255 < l) = false := decide_eq_false (by omega)
      have c5 : decide (c < 0) = false := decide_eq_false (by omega)
      have c6 : decide (65535 < c) = false := decide_eq_false (by omega)
      have c7 : decide (248 < (n : Int)) = true := decide_eq_true (by omega)
      clear h2 he
      go_enter Try.func54, Try.ntmps54
      go_wp2
      go_ret2
      exact ⟨rfl, (Below.refl _ w).alloc (Nat.le_refl _) _⟩
    · exact absurd h2 he

theorem seal_list (k l c : Int) (b : List UInt8) (hk : 0 ≤ k) (hl : 0 ≤ l) (hc0 : 0 ≤ c) (hc : c ≤ 65535) (hb : b.length ≤ 248) :
    let L := ((((List.replicate 256 (0 : UInt8)).set 4 (UInt8.ofNat k.toNat)).set 5 (UInt8.ofNat l.toNat)).set 6 (UInt8.ofNat (c / 256).toNat)).set 7 (UInt8.ofNat (c % 256).toNat)
    P.be 4 (P.crc (List.drop 4 (L.take 8 ++ (b ++ L.drop (8 + b.length))))) ++ List.drop 4 (L.take 8 ++ (b ++ L.drop (8 + b.length))) = P.page k.toNat l.toNat c.toNat b := by
  intro L
  have hL : L = [0, 0, 0, 0, UInt8.ofNat k.toNat, UInt8.ofNat l.toNat, UInt8.ofNat (c / 256).toNat, UInt8.ofNat (c % 256).toNat] ++ List.replicate 248 0 := rfl
  obtain ⟨x, rfl⟩ := Int.eq_ofNat_of_zero_le hc0
  have e1 : P.be 2 x = [UInt8.ofNat (x / 256), UInt8.ofNat (x % 256)] := by
    have : x / 256 % 256 = x / 256 := by omega
    simp [P.be, this]
  have e2 : List.drop 4 (L.take 8 ++ (b ++ L.drop (8 + b.length))) = P.tail k.toNat l.toNat x b := by
    rw [hL]
    unfold P.tail
    rw [e1]
    have hd : (List.replicate 248 (0 : UInt8)).drop b.length = List.replicate (248 - b.length) 0 := List.drop_replicate
    generalize List.replicate 248 (0 : UInt8) = Z at hd ⊢
    have h1 : ((x : Int) / 256).toNat = x / 256 := by omega
    have h2 : ((x : Int) % 256).toNat = x % 256 := by omega
    rw [h1, h2, show 8 + b.length = b.length + 8 by omega]
    simp [hd]
  rw [e2]
  rfl

/-- A new page's bytes. -/
def blank : Array Value := (bvs (List.replicate 256 0)).toArray

set_option maxRecDepth 100000 in
set_option maxHeartbeats 1600000 in
theorem seal_ok (k l c : Int) (a : Option Addr) (n m : Nat) (b : List UInt8) (w : World) (hr : Rd w a n b) (he : P.sealErr k l c n = 0) :
    Calls Try.prog 54 #[.agg #[.int .i64 k, .int .i64 l, .int .i64 c, .slice a n m]] w fun e w' =>
      ∃ v, e = .returned (.tuple #[v, .int .i64 0]) ∧ OB w' w.heap.size v (P.page k.toNat l.toNat c.toNat b) ∧ Below w.heap.size w w' := by
  rcases sealErr_cases k l c n with ⟨h1, h2⟩ | ⟨h1, ⟨h2, h3⟩ | ⟨h2, h3⟩⟩
  · rw [he] at h1; omega
  · rw [he] at h2; omega
  obtain ⟨b1, b2, b3, b4, b5, b6⟩ := h1
  have c1 : decide (k < 1) = false := decide_eq_false (by omega)
  have c2 : decide (5 < k) = false := decide_eq_false (by omega)
  have c3 : decide (l < 0) = false := decide_eq_false (by omega)
  have c4 : decide (255 < l) = false := decide_eq_false (by omega)
  have c5 : decide (c < 0) = false := decide_eq_false (by omega)
  have c6 : decide (65535 < c) = false := decide_eq_false (by omega)
  have c7 : decide (248 < (n : Int)) = false := decide_eq_false (by omega)
  obtain rfl := hr.1
  have HR := Lib.hid hr
  clear h2 he hr
  have hmk : ∀ w, (Instr.makeSlice 24 (.int .i64 256) (.int .i64 256)).run Try.prog w = .ok (.slice (some ⟨w.heap.size, 0, none⟩) 256 256) (w.alloc (.cells blank 5)) := fun _ => by kernel_rfl
  go_enter Try.func54, Try.ntmps54
  go_wp2
  go_region
  go_wp2
  generalize hW : World.drew _ = w0
  have hb0 : Below w.heap.size w w0 := by
    rw [← hW]
    exact ((((((Below.refl _ w).alloc (by simp) _).alloc (by simp) _).alloc (by simp; omega) _).alloc (by simp; omega) _)).drew
  have hs0 : Sealing w0 (w.heap.size + 1 + 1) (w.heap.size + 1) k l c a b.length m (List.replicate 256 0) := by
    rw [← hW]
    exact ⟨alloc_old (alloc_new _ _ _ (by simp)) _, List.length_replicate, alloc_old (alloc_old (alloc_new _ _ _ (by simp)) _) _, by omega⟩
  have hf0 : w0.heap[w.heap.size + 1 + 1 + 1]? = some (.cells #[.func (.func 83) #[] #[], .func (.func 84) #[] #[], .func (.func 85) #[] #[], .func (.func 86) #[] #[], .func (.func 87) #[] #[]] 130 (0, 0)) := by
    rw [← hW]
    exact alloc_new _ _ _ (by simp)
  have HS0 := Lib.hid hs0
  have q0 := cell_blk hf0
  clear hW hs0 hmk
  refine wp_loop_rounds 6 ?_
  rw [rounds_succ]
  go_wp2_with fail
  refine (kind_any _ _ k l c a b.length m _ _ HS0.out (by omega) (by omega)).mono ?_
  rintro e w1 ⟨rfl, hs1, hc1⟩
  have hb1 : Below w.heap.size w w1 := below_chg hb0 hc1 hb0.size (fun i hi => by omega)
  have hf1 : w1.heap[w.heap.size + 1 + 1 + 1]? = _ := (hc1.block _ (lt_of_block hf0) (by omega)).trans hf0
  have HS1 := Lib.hid hs1
  have q1 := cell_blk hf1
  clear hs1 hc1 q0
  go_wp2
  rw [rounds_succ]
  go_wp2_with fail
  refine (level_any _ _ k l c a b.length m _ _ HS1.out (by omega) (by omega)).mono ?_
  rintro e w2 ⟨rfl, hs2, hc2⟩
  have hb2 : Below w.heap.size w w2 := below_chg hb1 hc2 hb1.size (fun i hi => by omega)
  have hf2 : w2.heap[w.heap.size + 1 + 1 + 1]? = _ := (hc2.block _ (lt_of_block hf1) (by omega)).trans hf1
  have HS2 := Lib.hid hs2
  have q2 := cell_blk hf2
  clear hs2 hc2 q1
  go_wp2
  rw [rounds_succ]
  go_wp2_with fail
  refine (count_any _ _ k l c a b.length m _ _ HS2.out (by omega) (by omega)).mono ?_
  rintro e w3 ⟨rfl, hs3, hc3⟩
  have hb3 : Below w.heap.size w w3 := below_chg hb2 hc3 hb2.size (fun i hi => by omega)
  have hf3 : w3.heap[w.heap.size + 1 + 1 + 1]? = _ := (hc3.block _ (lt_of_block hf2) (by omega)).trans hf2
  have HS3 := Lib.hid hs3
  have q3 := cell_blk hf3
  clear hs3 hc3 q2
  go_wp2
  rw [rounds_succ]
  go_wp2_with fail
  refine (body_any _ _ k l c a b.length m _ b _ HS3.out (HR.out.below hb3) h3).mono ?_
  rintro e w4 ⟨rfl, hs4, hc4⟩
  have hb4 : Below w.heap.size w w4 := below_chg hb3 hc4 hb3.size (fun i hi => by omega)
  have hf4 : w4.heap[w.heap.size + 1 + 1 + 1]? = _ := (hc4.block _ (lt_of_block hf3) (by omega)).trans hf3
  have HS4 := Lib.hid hs4
  have q4 := cell_blk hf4
  clear hs4 hc4 q3
  go_wp2
  rw [rounds_succ]
  go_wp2_with fail
  refine (crcPart_any _ _ k l c a b.length m _ _ HS4.out).mono ?_
  rintro e w5 ⟨rfl, v, hB5, hown, hc5⟩
  have hb5 : Below w.heap.size w w5 := below_chg hb4 hc5 hb4.size (fun i hi => by omega)
  have q5 : w5.cell? ⟨w.heap.size + 1 + 1, 4, none⟩ = some v := cell_blk hB5 4
  have hown' := hown.mono hb4.size
  rw [seal_list k l c b (by omega) (by omega) (by omega) (by omega) h3] at hown'
  obtain ⟨K, hK⟩ : ∃ K, K = P.page k.toNat l.toNat c.toNat b := ⟨_, rfl⟩
  rw [← hK] at hown'
  have HK := Lib.hid hK
  obtain ⟨a6, c6', hv, -, -, -, -⟩ := hown'.form
  subst hv
  have HO := Lib.hid hown'
  clear hown hown' hB5 hc5 q4 hf0 hf1 hf2 hf3 hK
  go_wp2
  rw [rounds_succ]
  go_wp2_with fail
  go_ret2
  exact ⟨_, rfl, by rw [← HK.out]; exact HO.out, hb5⟩
end Go.Proofs.Ytpdmhnppibfmkaa
