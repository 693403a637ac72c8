/- Cells: pieces and kids as bytes, there and back. Plain law. -/
import Derived.Test.YtpdmhnppibfmkaaSup3
namespace Go.Proofs.Ytpdmhnppibfmkaa.P
structure Q where
  a : Int
  b : Int
  c : Int
  d : Int
deriving DecidableEq

def Q.mayP (x : Q) : Bool := decide (2 ≤ x.a ∧ x.a < 4096 ∧ 1 ≤ x.c ∧ x.c ≤ 248 ∧ 0 ≤ x.b ∧ x.b ≤ 248 - x.c ∧ 0 ≤ x.d ∧ x.d ≤ x.c)
def Q.mayK (x : Q) : Bool := decide (2 ≤ x.a ∧ x.a < 4096 ∧ 1 ≤ x.b ∧ x.b ≤ x.c ∧ x.c ≤ 1048576 ∧ 0 ≤ x.d ∧ x.d ≤ x.c)
def Q.encP (x : Q) : List UInt8 := be 4 x.a.toNat ++ be 2 x.b.toNat ++ be 2 x.c.toNat ++ be 2 x.d.toNat ++ be 2 0
def Q.encK (x : Q) : List UInt8 := be 4 x.a.toNat ++ be 4 x.b.toNat ++ be 8 x.c.toNat ++ be 4 x.d.toNat
def decP (b : List UInt8) : Q := ⟨(get b 0 4).1, (get b 4 2).1, (get b 6 2).1, (get b 8 2).1⟩
def decK (b : List UInt8) : Q := ⟨(get b 0 4).1, (get b 4 4).1, (get b 8 8).1, (get b 16 4).1⟩
def okP (b : List UInt8) : Bool := (decP b).mayP && decide ((get b 10 2).1 = 0)
def okK (b : List UInt8) : Bool := (decK b).mayK
theorem Q.encP_length (x : Q) : x.encP.length = 12 := by simp [Q.encP, be_length]
theorem Q.encK_length (x : Q) : x.encK.length = 20 := by simp [Q.encK, be_length]
theorem Q.mayP_iff (x : Q) : x.mayP = true ↔ (2 ≤ x.a ∧ x.a < 4096 ∧ 1 ≤ x.c ∧ x.c ≤ 248 ∧ 0 ≤ x.b ∧ x.b ≤ 248 - x.c ∧ 0 ≤ x.d ∧ x.d ≤ x.c) := by simp [Q.mayP]
theorem Q.mayK_iff (x : Q) : x.mayK = true ↔ (2 ≤ x.a ∧ x.a < 4096 ∧ 1 ≤ x.b ∧ x.b ≤ x.c ∧ x.c ≤ 1048576 ∧ 0 ≤ x.d ∧ x.d ≤ x.c) := by simp [Q.mayK]

theorem decP_enc (x : Q) (h : x.mayP = true) (z : List UInt8) : decP (x.encP ++ z) = x ∧ (get (x.encP ++ z) 10 2).1 = 0 := by
  have hm := x.mayP_iff.1 h
  have la := be_length 4 x.a.toNat
  have lb := be_length 2 x.b.toNat
  have lc := be_length 2 x.c.toNat
  have ld := be_length 2 x.d.toNat
  unfold decP Q.encP
  have c0 := get_at (be 4 x.a.toNat ++ be 2 x.b.toNat ++ be 2 x.c.toNat ++ be 2 x.d.toNat ++ be 2 0 ++ z) [] (be 4 x.a.toNat) _ x.a 0 4 (by simp only [List.append_assoc, List.nil_append]; rfl) (by simp) (by omega) (by omega) (by omega) (by omega) (by omega) rfl
  have c1 := get_at (be 4 x.a.toNat ++ be 2 x.b.toNat ++ be 2 x.c.toNat ++ be 2 x.d.toNat ++ be 2 0 ++ z) (be 4 x.a.toNat) (be 2 x.b.toNat) _ x.b 4 2 (by simp only [List.append_assoc]; rfl) (by first | (simp only [List.length_append]; omega) | omega) (by omega) (by omega) (by omega) (by omega) (by omega) rfl
  have c2 := get_at (be 4 x.a.toNat ++ be 2 x.b.toNat ++ be 2 x.c.toNat ++ be 2 x.d.toNat ++ be 2 0 ++ z) (be 4 x.a.toNat ++ be 2 x.b.toNat) (be 2 x.c.toNat) _ x.c 6 2 (by simp only [List.append_assoc]; rfl) (by first | (simp only [List.length_append]; omega) | omega) (by omega) (by omega) (by omega) (by omega) (by omega) rfl
  have c3 := get_at (be 4 x.a.toNat ++ be 2 x.b.toNat ++ be 2 x.c.toNat ++ be 2 x.d.toNat ++ be 2 0 ++ z) (be 4 x.a.toNat ++ be 2 x.b.toNat ++ be 2 x.c.toNat) (be 2 x.d.toNat) _ x.d 8 2 (by simp only [List.append_assoc]; rfl) (by first | (simp only [List.length_append]; omega) | omega) (by omega) (by omega) (by omega) (by omega) (by omega) rfl
  have c4 := get_at (be 4 x.a.toNat ++ be 2 x.b.toNat ++ be 2 x.c.toNat ++ be 2 x.d.toNat ++ be 2 0 ++ z) (be 4 x.a.toNat ++ be 2 x.b.toNat ++ be 2 x.c.toNat ++ be 2 x.d.toNat) (be 2 0) _ 0 10 2 (by simp only [List.append_assoc]; rfl) (by first | (simp only [List.length_append]; omega) | omega) (by omega) (by omega) (by omega) (by omega) (by omega) rfl
  simp only [Int.cast_ofNat_Int] at c1 c2 c3 c4
  rw [c1, c2, c3, c4]
  have c0' : (get (be 4 x.a.toNat ++ be 2 x.b.toNat ++ be 2 x.c.toNat ++ be 2 x.d.toNat ++ be 2 0 ++ z) 0 4).1 = x.a := c0
  rw [c0']
  exact ⟨rfl, rfl⟩
theorem decK_enc (x : Q) (h : x.mayK = true) (z : List UInt8) : decK (x.encK ++ z) = x := by
  have hm := x.mayK_iff.1 h
  have la := be_length 4 x.a.toNat
  have lb := be_length 4 x.b.toNat
  have lc := be_length 8 x.c.toNat
  have ld := be_length 4 x.d.toNat
  unfold decK Q.encK
  have c0 := get_at (be 4 x.a.toNat ++ be 4 x.b.toNat ++ be 8 x.c.toNat ++ be 4 x.d.toNat ++ z) [] (be 4 x.a.toNat) _ x.a 0 4 (by simp only [List.append_assoc, List.nil_append]; rfl) (by simp) (by omega) (by omega) (by omega) (by omega) (by omega) rfl
  have c1 := get_at (be 4 x.a.toNat ++ be 4 x.b.toNat ++ be 8 x.c.toNat ++ be 4 x.d.toNat ++ z) (be 4 x.a.toNat) (be 4 x.b.toNat) _ x.b 4 4 (by simp only [List.append_assoc]; rfl) (by first | (simp only [List.length_append]; omega) | omega) (by omega) (by omega) (by omega) (by omega) (by omega) rfl
  have c2 := get_at (be 4 x.a.toNat ++ be 4 x.b.toNat ++ be 8 x.c.toNat ++ be 4 x.d.toNat ++ z) (be 4 x.a.toNat ++ be 4 x.b.toNat) (be 8 x.c.toNat) _ x.c 8 8 (by simp only [List.append_assoc]; rfl) (by first | (simp only [List.length_append]; omega) | omega) (by omega) (by omega) (by omega) (by omega) (by omega) rfl
  have c3 := get_at (be 4 x.a.toNat ++ be 4 x.b.toNat ++ be 8 x.c.toNat ++ be 4 x.d.toNat ++ z) (be 4 x.a.toNat ++ be 4 x.b.toNat ++ be 8 x.c.toNat) (be 4 x.d.toNat) _ x.d 16 4 (by simp only [List.append_assoc]; rfl) (by first | (simp only [List.length_append]; omega) | omega) (by omega) (by omega) (by omega) (by omega) (by omega) rfl
  simp only [Int.cast_ofNat_Int] at c1 c2 c3
  rw [c1, c2, c3]
  have c0' : (get (be 4 x.a.toNat ++ be 4 x.b.toNat ++ be 8 x.c.toNat ++ be 4 x.d.toNat ++ z) 0 4).1 = x.a := c0
  rw [c0']

/-- The cells' bytes; the cells of a body. -/
def encAll (enc : Q → List UInt8) (l : List Q) : List UInt8 := (l.map enc).flatten
def chunk (sz : Nat) (body : List UInt8) (i : Nat) : List UInt8 := (body.drop (sz * i)).take sz
def cellsOf (dec : List UInt8 → Q) (sz : Nat) (body : List UInt8) (n : Nat) : List Q := (List.range n).map fun i => dec (chunk sz body i)
theorem encAll_snoc (enc : Q → List UInt8) (l : List Q) (x : Q) : encAll enc (l ++ [x]) = encAll enc l ++ enc x := by simp [encAll]
theorem encAll_length (enc : Q → List UInt8) (sz : Nat) (he : ∀ x, (enc x).length = sz) (l : List Q) : (encAll enc l).length = sz * l.length := by
  induction l with
  | nil => simp [encAll]
  | cons x l ih => simp only [encAll, List.map_cons, List.flatten_cons, List.length_append, he, List.length_cons] at ih ⊢; rw [ih, Nat.mul_add]; omega
theorem cellsOf_snoc (dec : List UInt8 → Q) (sz : Nat) (body : List UInt8) (n : Nat) : cellsOf dec sz body (n + 1) = cellsOf dec sz body n ++ [dec (chunk sz body n)] := by simp [cellsOf, List.range_succ]
theorem cellsOf_length (dec : List UInt8 → Q) (sz : Nat) (body : List UInt8) (n : Nat) : (cellsOf dec sz body n).length = n := by simp [cellsOf]
theorem chunk_enc (enc : Q → List UInt8) (sz : Nat) (he : ∀ x, (enc x).length = sz) (l : List Q) (z : List UInt8) (i : Nat) (hi : i < l.length) : chunk sz (encAll enc l ++ z) i = enc l[i] := by
  induction l generalizing i with
  | nil => simp at hi
  | cons x l ih =>
    cases i with
    | zero => simp [chunk, encAll, List.take_append_of_le_length (show sz ≤ (enc x).length by rw [he]; omega), List.take_of_length_le (show (enc x).length ≤ sz by rw [he]; omega)]
    | succ i =>
      have h := ih i (by simpa using hi)
      have e : encAll enc (x :: l) ++ z = enc x ++ (encAll enc l ++ z) := by simp [encAll]
      rw [e]
      unfold chunk at h ⊢
      rw [show sz * (i + 1) = (enc x).length + sz * i by rw [he, Nat.mul_add]; omega, ← List.drop_drop, List.drop_left]
      simpa using h
theorem cellsOf_enc (dec : List UInt8 → Q) (enc : Q → List UInt8) (sz : Nat) (he : ∀ x, (enc x).length = sz) (l : List Q) (hd : ∀ x ∈ l, dec (enc x) = x) (z : List UInt8) :
    cellsOf dec sz (encAll enc l ++ z) l.length = l := by
  apply List.ext_getElem (by simp [cellsOf])
  intro i h1 h2
  simp only [cellsOf, List.getElem_map, List.getElem_range]
  rw [chunk_enc enc sz he l z i h2]
  exact hd _ (List.getElem_mem h2)
theorem take_chunk (sz : Nat) (body : List UInt8) (n : Nat) : body.take (sz * (n + 1)) = body.take (sz * n) ++ chunk sz body n := by
  unfold chunk
  rw [Nat.mul_add, Nat.mul_one, List.take_add]
theorem encAll_cells (dec : List UInt8 → Q) (enc : Q → List UInt8) (sz : Nat) (body : List UInt8) (n : Nat) (h : ∀ i, i < n → enc (dec (chunk sz body i)) = chunk sz body i) :
    encAll enc (cellsOf dec sz body n) = body.take (sz * n) := by
  induction n with
  | zero => simp [cellsOf, encAll]
  | succ n ih => rw [cellsOf_snoc, encAll_snoc, ih (fun i hi => h i (by omega)), h n (by omega), take_chunk]
end Go.Proofs.Ytpdmhnppibfmkaa.P
