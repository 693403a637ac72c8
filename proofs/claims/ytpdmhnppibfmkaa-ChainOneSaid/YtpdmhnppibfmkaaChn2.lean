/- Chapter 11, plain: pages one behind the other at equal distances. -/
import Derived.Test.YtpdmhnppibfmkaaChn
namespace Go.Proofs.Ytpdmhnppibfmkaa.P
set_option linter.unusedVariables false

def lst (f s : Int) (n : Nat) : List Int := (List.range n).map (fun i : Nat => f + (i : Int) * s)
theorem lst_length (f s : Int) (n : Nat) : (lst f s n).length = n := by simp [lst]
theorem lst_succ (f s : Int) (n : Nat) : lst f s (n + 1) = lst f s n ++ [f + (n : Int) * s] := by simp [lst, List.range_succ]
theorem lst_get (f s : Int) (n i : Nat) (h : i < (lst f s n).length) : (lst f s n)[i] = f + (i : Int) * s := by simp [lst]
theorem lst_take (f s : Int) (n k : Nat) (h : k ≤ n) : (lst f s n).take k = lst f s k := by
  simp [lst, ← List.map_take, List.take_range, Nat.min_eq_left h]
theorem lst_fits (b : List UInt8) (f s : Int) (n : Nat) (hs : 1 ≤ s) (hs2 : s ≤ 3) (hf : 2 ≤ f) (hf2 : f ≤ 2000) (hn : n = needN b.length) (hn2 : n ≤ 100) : fits b (lst f s n) = true := by
  rw [fits_iff]
  refine ⟨by rw [lst_length, hn], ?_, ?_⟩
  · intro p hp
    simp only [lst, List.mem_map, List.mem_range] at hp
    obtain ⟨i, hi, rfl⟩ := hp
    have h1 : 0 ≤ (i : Int) * s := Int.mul_nonneg (by omega) (by omega)
    have h2 : (i : Int) * s ≤ 100 * 3 := Int.mul_le_mul (by omega) hs2 (by omega) (by omega)
    omega
  · unfold lst
    refine List.Pairwise.map _ (fun a b hab => ?_) List.nodup_range
    intro e
    apply hab
    have h : ((a : Int) - b) * s = 0 := by rw [Int.sub_mul]; omega
    rcases Int.mul_eq_zero.1 h with h | h
    · omega
    · omega
theorem lst_next (f s : Int) (n i : Nat) : nextI (lst f s n) i = if i + 1 < n then f + ((i : Int) + 1) * s else 0 := by
  unfold nextI
  rw [List.getD_eq_getElem?_getD]
  split
  · rename_i h
    rw [List.getElem?_eq_getElem (by rw [lst_length]; exact h), lst_get]
    simp
  · rename_i h
    rw [List.getElem?_eq_none (by rw [lst_length]; omega)]
    rfl
theorem cutErr_zero (b : List UInt8) (l : List Int) (h : fits b l = true) (hb : b.length ≤ 1048576) : cutErr b l = 0 := by
  unfold cutErr
  rw [h, if_pos rfl, if_neg (by omega)]
theorem cutL_to (b : List UInt8) (l : List Int) (h : fits b l = true) (hb : b.length ≤ 1048576) : cutL b l = cutTo b l l.length := by
  unfold cutL
  rw [if_pos (cutErr_zero b l h hb)]
theorem cutTo_get (b : List UInt8) (l : List Int) (n i : Nat) (h : i < (cutTo b l n).length) : (cutTo b l n)[i] = cutPage b l i := by simp [cutTo]
theorem part_take (b : List UInt8) (n : Nat) : b.take (244 * (n + 1)) = b.take (244 * n) ++ part b n := by
  unfold part
  rw [Nat.mul_add, Nat.mul_one, List.take_add]
end Go.Proofs.Ytpdmhnppibfmkaa.P
