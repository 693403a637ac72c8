/- Cells, as the reference reads them: from where they stand on. Plain law. -/
import Derived.Test.YtpdmhnppibfmkaaCel3
namespace Go.Proofs.Ytpdmhnppibfmkaa.P
theorem get_take (l : List UInt8) (n at_ m : Nat) (h : at_ + m ≤ n) (hn : n ≤ l.length) : get (l.take n) (at_ : Nat) (m : Nat) = get l (at_ : Nat) (m : Nat) := by
  have hs : slice (l.take n) at_ m = slice l at_ m := by
    unfold slice
    rw [List.drop_take, List.take_take]
    congr 1
    omega
  have hl : lies (l.take n).length (at_ : Nat) (m : Nat) = lies l.length (at_ : Nat) (m : Nat) := by
    unfold lies
    rw [List.length_take, Nat.min_eq_left hn]
    apply decide_eq_decide.2
    omega
  unfold get
  rw [hl]
  simp only [Int.toNat_natCast, hs]
theorem decP_take (l : List UInt8) (h : 12 ≤ l.length) : decP (l.take 12) = decP l := by
  unfold decP
  have e0 := get_take l 12 0 4 (by omega) h
  have e1 := get_take l 12 4 2 (by omega) h
  have e2 := get_take l 12 6 2 (by omega) h
  have e3 := get_take l 12 8 2 (by omega) h
  simp only [Int.cast_ofNat_Int] at e1 e2 e3
  rw [show get (l.take 12) 0 4 = get l 0 4 from e0, e1, e2, e3]
theorem decK_take (l : List UInt8) (h : 20 ≤ l.length) : decK (l.take 20) = decK l := by
  unfold decK
  have e0 := get_take l 20 0 4 (by omega) h
  have e1 := get_take l 20 4 4 (by omega) h
  have e2 := get_take l 20 8 8 (by omega) h
  have e3 := get_take l 20 16 4 (by omega) h
  simp only [Int.cast_ofNat_Int] at e1 e2 e3
  rw [show get (l.take 20) 0 4 = get l 0 4 from e0, e1, e2, e3]
theorem get_two0 (l : List UInt8) (h : 12 ≤ l.length) : (get l 10 2).1 = 0 ↔ l[10] = 0 ∧ l[11] = 0 := by
  have hf := get_fit l 10 2 (by omega) (by omega) (by omega)
  have hb : lies l.length ((10 : Nat) : Int) ((2 : Nat) : Int) = true := by simp [lies]; omega
  have e : slice l 10 2 = [l[10], l[11]] := by
    unfold slice
    rw [List.drop_eq_getElem_cons (show 10 < l.length by omega), List.drop_eq_getElem_cons (show 10 + 1 < l.length by omega)]
    rfl
  have hn : (get l ((10 : Nat) : Int) ((2 : Nat) : Int)).1 = ((l[10].toNat * 256 + l[11].toNat : Nat) : Int) := by
    have h1 := (l[10]).toNat_lt
    have h2 := (l[11]).toNat_lt
    unfold get
    rw [if_pos hb]
    simp only [Int.toNat_natCast, e, num, List.foldl_cons, List.foldl_nil, Nat.zero_mul, Nat.zero_add]
    rw [if_neg (by omega)]
  have hn' : (get l 10 2).1 = ((l[10].toNat * 256 + l[11].toNat : Nat) : Int) := hn
  rw [hn']
  constructor
  · intro h0
    exact ⟨UInt8.toNat_inj.1 (by simp; omega), UInt8.toNat_inj.1 (by simp; omega)⟩
  · rintro ⟨h1, h2⟩
    rw [h1, h2]
    rfl
theorem okP_take (l : List UInt8) (h : 12 ≤ l.length) : okP (l.take 12) = ((decP l).mayP && decide (l[10] = 0 ∧ l[11] = 0)) := by
  unfold okP
  rw [decP_take l h]
  congr 1
  have e := get_take l 12 10 2 (by omega) h
  simp only [Int.cast_ofNat_Int] at e
  rw [e]
  exact decide_eq_decide.2 (get_two0 l h)
theorem okK_take (l : List UInt8) (h : 20 ≤ l.length) : okK (l.take 20) = (decK l).mayK := by
  unfold okK
  rw [decK_take l h]
end Go.Proofs.Ytpdmhnppibfmkaa.P
