/- The law of chapter 12: an image is built. Plain, and rows of noughts. -/
import Derived.Test.YtnjpaanjgbfbaaaGreatJ48
import Derived.Test.YtnjpaanjgbfbaaaGreatJ16
import Derived.Test.YtnjpaanjgbfbaaaGreatJ12
namespace Go.Proofs.YtnjpaanjgbfbaaaGreat
set_option linter.unusedVariables false
set_option linter.unusedSimpArgs false
open Go.RowKit

theorem OB_zr (w : World) (B n : Nat) (hB : B ≤ w.heap.size) (hn : n ≤ maxLen) : OB (w.alloc (.cells (zr n) 5)) B (.slice (some ⟨w.heap.size, 0, none⟩) n n) (List.replicate n 0) := by
  refine ⟨by simp [bvs], .inr ⟨w.heap.size, n, zr n, by simp, hB, alloc_new _ _ _ rfl, by simp, hn, by simp [zr, bvs], by simp [zr, bvs]⟩⟩
/-- The byte j of the text of leaf i. -/
def chI (i j : Nat) : UInt8 := if (i + j) % 5 = 4 then 10 else UInt8.ofNat (97 + i % 20)
def bufI (i n j : Nat) : List UInt8 := (List.range n).map fun q => if q < j then chI i q else 0
def txI (i n : Nat) : List UInt8 := (List.range n).map (chI i)
theorem bufI_zero (i n : Nat) : bufI i n 0 = List.replicate n 0 := by
  apply List.ext_getElem
  · simp [bufI]
  · intro q h1 h2
    simp [bufI]
theorem bufI_full (i n : Nat) : bufI i n n = txI i n := by
  apply List.ext_getElem
  · simp [bufI, txI]
  · intro q h1 h2
    simp [bufI] at h1
    simp [bufI, txI, h1]
theorem bufI_succ (i n j : Nat) (h : j < n) : bufI i n (j + 1) = (bufI i n j).set j (chI i j) := by
  apply List.ext_getElem
  · simp [bufI]
  · intro q h1 h2
    simp only [bufI, List.getElem_map, List.getElem_range, List.getElem_set]
    by_cases e : j = q
    · subst e; simp
    · rw [if_neg e]
      by_cases e2 : q < j
      · rw [if_pos (by omega), if_pos e2]
      · rw [if_neg (by omega), if_neg e2]
theorem bufI_length (i n j : Nat) : (bufI i n j).length = n := by simp [bufI]
theorem txI_length (i n : Nat) : (txI i n).length = n := by simp [txI]
def szI (b : UInt8) : Nat := 1 + b.toNat % 8
/-- The texts of the leaves, and the pieces that tell of them. -/
def txsI : Nat → List UInt8 → List (List UInt8)
  | _, [] => []
  | i, b :: S => txI i (szI b) :: txsI (i + 1) S
def psI : Nat → List UInt8 → List P.Q
  | _, [] => []
  | i, b :: S => ⟨((2 + i : Nat) : Int), 0, (szI b : Int), ((List.count 10 (txI i (szI b)) : Nat) : Int)⟩ :: psI (i + 1) S
theorem txsI_snoc (i : Nat) (S : List UInt8) (b : UInt8) : txsI i (S ++ [b]) = txsI i S ++ [txI (i + S.length) (szI b)] := by
  induction S generalizing i with
  | nil => rfl
  | cons x S ih =>
    show txI i (szI x) :: txsI (i + 1) (S ++ [b]) = _
    rw [ih, show i + 1 + S.length = i + (S.length + 1) from by omega]
    rfl
theorem psI_snoc (i : Nat) (S : List UInt8) (b : UInt8) : psI i (S ++ [b]) = psI i S ++ [⟨((2 + (i + S.length) : Nat) : Int), 0, (szI b : Int), ((List.count 10 (txI (i + S.length) (szI b)) : Nat) : Int)⟩] := by
  induction S generalizing i with
  | nil => rfl
  | cons x S ih =>
    show _ :: psI (i + 1) (S ++ [b]) = _
    rw [ih, show i + 1 + S.length = i + (S.length + 1) from by omega]
    rfl
theorem txsI_length (i : Nat) (S : List UInt8) : (txsI i S).length = S.length := by
  induction S generalizing i with
  | nil => rfl
  | cons x S ih => simp [txsI, ih]
theorem psI_length (i : Nat) (S : List UInt8) : (psI i S).length = S.length := by
  induction S generalizing i with
  | nil => rfl
  | cons x S ih => simp [psI, ih]
theorem psI_ok (i : Nat) (S : List UInt8) : ∀ q ∈ psI i S, (0 ≤ q.c ∧ q.c ≤ 1000) ∧ 0 ≤ q.d ∧ q.d ≤ 1000 := by
  induction S generalizing i with
  | nil => simp [psI]
  | cons b S ih =>
    intro q hq
    simp only [psI, List.mem_cons] at hq
    rcases hq with rfl | hq
    · have h1 : szI b ≤ 8 := by unfold szI; omega
      have h2 : List.count 10 (txI i (szI b)) ≤ szI b := by
        have := List.count_le_length (a := (10 : UInt8)) (l := txI i (szI b))
        rwa [txI_length] at this
      refine ⟨⟨?_, ?_⟩, ?_, ?_⟩ <;> simp only [] <;> omega
    · exact ih _ q hq
/-- The bits below j. -/
def bmB (q j : Nat) : UInt8 := UInt8.ofNat (2 ^ (min 8 (j - 8 * q)) - 1)
def bmI (nb j : Nat) : List UInt8 := (List.range nb).map fun q => bmB q j
theorem bmI_length (nb j : Nat) : (bmI nb j).length = nb := by simp [bmI]
theorem bmI_zero (nb : Nat) : bmI nb 0 = List.replicate nb 0 := by
  apply List.ext_getElem
  · simp [bmI]
  · intro q h1 h2
    simp [bmI, bmB]
theorem bmI_get (nb j : Nat) (h : j / 8 < (bmI nb j).length) : (bmI nb j)[j / 8] = UInt8.ofNat (2 ^ (j % 8) - 1) := by
  simp only [bmI, List.getElem_map, List.getElem_range, bmB]
  rw [show min 8 (j - 8 * (j / 8)) = j % 8 from by omega]
theorem bmI_succ (nb j : Nat) (h : j / 8 < nb) : bmI nb (j + 1) = (bmI nb j).set (j / 8) (UInt8.ofNat (2 ^ (j % 8 + 1) - 1)) := by
  apply List.ext_getElem
  · simp [bmI]
  · intro q h1 h2
    simp only [bmI, List.getElem_map, List.getElem_range, List.getElem_set, bmB]
    by_cases e : j / 8 = q
    · rw [if_pos e, show min 8 (j + 1 - 8 * q) = j % 8 + 1 from by omega]
    · rw [if_neg e, show min 8 (j + 1 - 8 * q) = min 8 (j - 8 * q) from by omega]
/-- The image with the texts. -/
def textI (np : Nat) (S : List UInt8) : List UInt8 := layN (List.replicate (np * 256) 0) 2 ((txsI 0 S).map P.txtB)
end Go.Proofs.YtnjpaanjgbfbaaaGreat
