/- Chains: bytes on pages one behind the other. Plain law. -/
import Derived.Test.YtpdmhnppibfmkaaCel3
namespace Go.Proofs.Ytpdmhnppibfmkaa.P
def needN (n : Nat) : Nat := (n + 243) / 244
def need (n : Int) : Int := if n < 1 then 0 else (n - 1) / 244 + 1
theorem need_nat (n : Nat) : need (n : Int) = (needN n : Nat) := by
  unfold need needN
  split <;> omega
def onI (p : Int) : Bool := decide (2 ≤ p ∧ p < 4096)
def fits (b : List UInt8) (l : List Int) : Bool := decide (l.length = needN b.length) && l.all onI && decide l.Nodup
def cutErr (b : List UInt8) (l : List Int) : Int := if fits b l = true then (if 1048576 < b.length then 3 else 0) else 1
def part (b : List UInt8) (i : Nat) : List UInt8 := (b.drop (244 * i)).take 244
def nextI (l : List Int) (i : Nat) : Int := l.getD (i + 1) 0
def cutBody (b : List UInt8) (l : List Int) (i : Nat) : List UInt8 := be 4 (nextI l i).toNat ++ part b i
def cutPage (b : List UInt8) (l : List Int) (i : Nat) : List UInt8 := page 5 0 (part b i).length (cutBody b l i)
def cutTo (b : List UInt8) (l : List Int) (n : Nat) : List (List UInt8) := (List.range n).map (cutPage b l)
def cutL (b : List UInt8) (l : List Int) : List (List UInt8) := if cutErr b l = 0 then cutTo b l l.length else []
def nxt (b : List UInt8) : Int := (get (openBody b) 0 4).1
def goodC (b : List UInt8) : Prop := openKind b = 5 ∧ openLevel b = 0 ∧ 1 ≤ openCount b ∧ openCount b ≤ 244 ∧ (nxt b = 0 ∨ 2 ≤ nxt b ∧ nxt b < 4096 ∧ openCount b = 244) ∧ zeros ((openBody b).drop (4 + openCount b)) = true
instance (b : List UInt8) : Decidable (goodC b) := by unfold goodC; infer_instance
def ptErr (b : List UInt8) : Int := if openErr b ≠ 0 then openErr b else if goodC b then 0 else 4
def ptL (b : List UInt8) : List UInt8 := if ptErr b = 0 then ((openBody b).drop 4).take (openCount b) else []
def ptN (b : List UInt8) : Int := if ptErr b = 0 then nxt b else 0
theorem part_len (b : List UInt8) (i : Nat) : (part b i).length = min 244 (b.length - 244 * i) := by simp [part]
theorem cutTo_succ (b : List UInt8) (l : List Int) (n : Nat) : cutTo b l (n + 1) = cutTo b l n ++ [cutPage b l n] := by simp [cutTo, List.range_succ]
theorem cutTo_length (b : List UInt8) (l : List Int) (n : Nat) : (cutTo b l n).length = n := by simp [cutTo]
theorem fits_iff (b : List UInt8) (l : List Int) : fits b l = true ↔ l.length = needN b.length ∧ (∀ p ∈ l, 2 ≤ p ∧ p < 4096) ∧ l.Nodup := by
  simp [fits, onI, and_assoc]
theorem seal_cut (b : List UInt8) (l : List Int) (i : Nat) (h : 1 ≤ (part b i).length) : sealErr 5 0 (part b i).length (cutBody b l i).length = 0 := by
  have hl := part_len b i
  have hb : (cutBody b l i).length = 4 + (part b i).length := by simp [cutBody, be_length]
  rw [hb]
  unfold sealErr
  rw [if_neg (by omega), if_neg (by omega)]
theorem nextI_ok (b : List UInt8) (l : List Int) (h : fits b l = true) (i : Nat) : nextI l i = 0 ∨ (2 ≤ nextI l i ∧ nextI l i < 4096 ∧ i + 1 < l.length) := by
  obtain ⟨-, h2, -⟩ := (fits_iff b l).1 h
  unfold nextI
  rcases Nat.lt_or_ge (i + 1) l.length with hi | hi
  · right
    have e : l.getD (i + 1) 0 = l[i + 1] := by simp [List.getD, hi]
    have := h2 l[i + 1] (List.getElem_mem _)
    rw [e]
    exact ⟨this.1, this.2, hi⟩
  · left
    simp [List.getD, List.getElem?_eq_none hi]
theorem cut_part (b : List UInt8) (l : List Int) (h : fits b l = true) (i : Nat) (hi : i < l.length) :
    ptErr (cutPage b l i) = 0 ∧ ptL (cutPage b l i) = part b i ∧ ptN (cutPage b l i) = nextI l i := by
  have hn := (fits_iff b l).1 h
  have hlen : l.length = (b.length + 243) / 244 := hn.1
  have hpl := part_len b i
  have h1 : 1 ≤ (part b i).length := by omega
  have hx := nextI_ok b l h i
  have hs := seal_cut b l i h1
  obtain ⟨o1, o2, o3, o4, o5⟩ := page_open hs
  simp only [Int.toNat_natCast] at o1 o2 o3 o4 o5
  have hB : cutPage b l i = page (Int.toNat 5) (Int.toNat 0) (part b i).length (cutBody b l i) := rfl
  rw [← hB] at o1 o2 o3 o4 o5
  generalize cutPage b l i = K at *
  have hbl : (be 4 (nextI l i).toNat).length = 4 := be_length _ _
  have hnx : nxt K = nextI l i := by
    unfold nxt
    rw [o5, cutBody, List.append_assoc]
    exact get_at _ [] (be 4 (nextI l i).toNat) _ (nextI l i) 0 4 (by simp only [List.nil_append]; rfl) rfl (by omega) (by omega) (by omega) (by omega) (by omega) rfl
  have hcl : (cutBody b l i).length = 4 + (part b i).length := by simp [cutBody, be_length]
  have hg : goodC K := by
    unfold goodC
    rw [o2, o3, o4, hnx, o5]
    refine ⟨rfl, rfl, h1, by omega, ?_, ?_⟩
    · rcases hx with h0 | ⟨h2, h3, h4⟩
      · exact .inl h0
      · exact .inr ⟨h2, h3, by omega⟩
    · rw [← hcl, List.drop_left]; exact zeros_rep _
  have he : ptErr K = 0 := by
    unfold ptErr
    rw [if_neg (by simpa using o1), if_pos hg]
  refine ⟨he, ?_, ?_⟩
  · unfold ptL
    rw [if_pos he, o4, o5, cutBody, List.append_assoc]
    rw [List.drop_append_of_le_length (by omega), List.drop_eq_nil_of_le (by omega), List.nil_append, List.take_left]
  · unfold ptN
    rw [if_pos he, hnx]
/-- The parts are the bytes. -/
theorem parts_join (b : List UInt8) (n : Nat) : ((List.range n).map (part b)).flatten = b.take (244 * n) := by
  induction n with
  | zero => simp
  | succ n ih =>
    rw [List.range_succ, List.map_append, List.flatten_append, ih]
    simp only [List.map_cons, List.map_nil, List.flatten_cons, List.flatten_nil, List.append_nil]
    rw [Nat.mul_add, Nat.mul_one, List.take_add]
    rfl
theorem parts_all (b : List UInt8) : ((List.range (needN b.length)).map (part b)).flatten = b := by
  rw [parts_join, List.take_of_length_le (by unfold needN; omega)]
/-- Unlike bytes, or unlike pages to go on to, have unlike pages. -/
theorem cut_inj (a b : List UInt8) (l k : List Int) (ha : fits a l = true) (hb : fits b k = true) (he : cutTo a l l.length = cutTo b k k.length) : a = b := by
  have hl : l.length = k.length := by have := congrArg List.length he; simpa [cutTo_length] using this
  have ha1 := ((fits_iff a l).1 ha).1
  have hb1 := ((fits_iff b k).1 hb).1
  rw [← parts_all a, ← parts_all b, ← ha1, ← hb1, ← hl]
  congr 1
  apply List.map_congr_left
  intro i hi
  have hi' : i < l.length := List.mem_range.1 hi
  have hp : cutPage a l i = cutPage b k i := by
    have h1 : (cutTo a l l.length)[i]? = (cutTo b k k.length)[i]? := by rw [he]
    simp only [cutTo, List.getElem?_map, List.getElem?_range hi', List.getElem?_range (show i < k.length by omega), Option.map_some, Option.some.injEq] at h1
    exact h1
  rw [← (cut_part a l ha i hi').2.1, ← (cut_part b k hb i (by omega)).2.1, hp]
theorem ptErr_flip (K : List UInt8) (i : Nat) (x : UInt8) (hi : i < K.length) (hx : x ≠ K[i]) (h : openErr K = 0) : ptErr (K.set i x) = 5 := by
  have := open_set K i x hi hx h
  unfold ptErr
  rw [this, if_pos (by omega)]
theorem ptErr_zero {b : List UInt8} (h : ptErr b = 0) : openErr b = 0 ∧ goodC b := by
  unfold ptErr at h
  by_cases h1 : openErr b = 0
  · rw [if_neg (by simpa using h1)] at h
    by_cases h2 : goodC b
    · exact ⟨h1, h2⟩
    · rw [if_neg h2] at h; omega
  · rw [if_pos (by simpa using h1)] at h; exact absurd h h1
end Go.Proofs.Ytpdmhnppibfmkaa.P
