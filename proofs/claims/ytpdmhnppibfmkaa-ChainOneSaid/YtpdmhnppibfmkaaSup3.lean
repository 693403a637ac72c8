/- Superblocks: there and back; the one or the other. Plain law. -/
import Derived.Test.YtpdmhnppibfmkaaSup2
namespace Go.Proofs.Ytpdmhnppibfmkaa.P
theorem get_mid (p q r : List UInt8) (x : Int) (n : Nat) (h1 : 1 ≤ n) (h2 : n ≤ 8) (h0 : 0 ≤ x) (h3 : x ≤ 1152921504606846976) (h4 : x < 256 ^ n) (hq : q = be n x.toNat) :
    get (p ++ (q ++ r)) (p.length : Nat) (n : Nat) = (x, true) := by
  have hl : q.length = n := by rw [hq, be_length]
  have hs : slice (p ++ (q ++ r)) p.length n = q := by
    simp [slice, hl]
  have hn : num q = x.toNat := by
    rw [hq, num_be]
    have : ((256 ^ n : Nat) : Int) = (256 : Int) ^ n := by simp
    omega
  unfold get
  rw [if_pos (by simp [lies, hl]; omega)]
  simp only [Int.toNat_natCast, hs, hn]
  rw [if_neg (by omega)]
  simp only [Prod.mk.injEq, and_true]
  omega
theorem get_at (b p q r : List UInt8) (x : Int) (at_ n : Nat) (hb : b = p ++ (q ++ r)) (hp : p.length = at_) (h1 : 1 ≤ n) (h2 : n ≤ 8) (h0 : 0 ≤ x) (h3 : x ≤ 1152921504606846976) (h4 : x < 256 ^ n) (hq : q = be n x.toNat) :
    (get b (at_ : Nat) (n : Nat)).1 = x := by
  subst hb hp
  rw [get_mid p q r x n h1 h2 h0 h3 h4 hq]
theorem Sup.sealOk (x : Sup) : sealErr 1 0 0 x.body.length = 0 := by rw [x.body_length]; decide
theorem Sup.page_eq {x : Sup} (h : x.chk = 0) : x.page = P.page 1 0 0 x.body := by unfold Sup.page; rw [if_pos h]
theorem Sup.bounds {x : Sup} (h : x.chk = 0) : (0 ≤ x.g ∧ x.g ≤ 1152921504606846976) ∧ (0 ≤ x.p ∧ x.p ≤ 4096) ∧ (0 ≤ x.r ∧ x.r ≤ 4096) ∧ (0 ≤ x.h ∧ x.h ≤ 32) ∧ (0 ≤ x.b ∧ x.b ≤ 1048576) ∧ (0 ≤ x.l ∧ x.l ≤ 1048576) ∧ (0 ≤ x.s ∧ x.s ≤ 4096) ∧ (0 ≤ x.f ∧ x.f ≤ 4096) := by
  have hm := x.may_iff
  rcases x.chk_cases with ⟨m, -⟩ | ⟨-, e⟩
  · have := hm.1 m
    omega
  · omega
theorem dec_body_page {x : Sup} (h : x.chk = 0) (z : List UInt8) : dec (x.body ++ z) = x := by
  obtain ⟨g1, p1, r1, h1, b1, l1, s1, f1⟩ := Sup.bounds h
  have l8 := be_length 8 x.g.toNat
  have lp := be_length 4 x.p.toNat
  have lr := be_length 4 x.r.toNat
  have lh := be_length 2 x.h.toNat
  have lb := be_length 4 x.b.toNat
  have ll := be_length 4 x.l.toNat
  have ls := be_length 4 x.s.toNat
  have lf := be_length 4 x.f.toNat
  unfold dec
  unfold Sup.body
  have c0 := get_at (be 8 x.g.toNat ++ be 4 x.p.toNat ++ be 4 x.r.toNat ++ be 2 x.h.toNat ++ be 4 x.b.toNat ++ be 4 x.l.toNat ++ be 4 x.s.toNat ++ be 4 x.f.toNat ++ z) [] (be 8 x.g.toNat) _ x.g 0 8 (by simp only [List.append_assoc, List.nil_append]; rfl) (by simp) (by omega) (by omega) g1.1 (by omega) (by omega) rfl
  have c1 := get_at (be 8 x.g.toNat ++ be 4 x.p.toNat ++ be 4 x.r.toNat ++ be 2 x.h.toNat ++ be 4 x.b.toNat ++ be 4 x.l.toNat ++ be 4 x.s.toNat ++ be 4 x.f.toNat ++ z) (be 8 x.g.toNat) (be 4 x.p.toNat) _ x.p 8 4 (by simp only [List.append_assoc]; rfl) (by omega) (by omega) (by omega) p1.1 (by omega) (by omega) rfl
  have c2 := get_at (be 8 x.g.toNat ++ be 4 x.p.toNat ++ be 4 x.r.toNat ++ be 2 x.h.toNat ++ be 4 x.b.toNat ++ be 4 x.l.toNat ++ be 4 x.s.toNat ++ be 4 x.f.toNat ++ z) (be 8 x.g.toNat ++ be 4 x.p.toNat) (be 4 x.r.toNat) _ x.r 12 4 (by simp only [List.append_assoc]; rfl) (by simp only [List.length_append]; omega) (by omega) (by omega) r1.1 (by omega) (by omega) rfl
  have c3 := get_at (be 8 x.g.toNat ++ be 4 x.p.toNat ++ be 4 x.r.toNat ++ be 2 x.h.toNat ++ be 4 x.b.toNat ++ be 4 x.l.toNat ++ be 4 x.s.toNat ++ be 4 x.f.toNat ++ z) (be 8 x.g.toNat ++ be 4 x.p.toNat ++ be 4 x.r.toNat) (be 2 x.h.toNat) _ x.h 16 2 (by simp only [List.append_assoc]; rfl) (by simp only [List.length_append]; omega) (by omega) (by omega) h1.1 (by omega) (by omega) rfl
  have c4 := get_at (be 8 x.g.toNat ++ be 4 x.p.toNat ++ be 4 x.r.toNat ++ be 2 x.h.toNat ++ be 4 x.b.toNat ++ be 4 x.l.toNat ++ be 4 x.s.toNat ++ be 4 x.f.toNat ++ z) (be 8 x.g.toNat ++ be 4 x.p.toNat ++ be 4 x.r.toNat ++ be 2 x.h.toNat) (be 4 x.b.toNat) _ x.b 18 4 (by simp only [List.append_assoc]; rfl) (by simp only [List.length_append]; omega) (by omega) (by omega) b1.1 (by omega) (by omega) rfl
  have c5 := get_at (be 8 x.g.toNat ++ be 4 x.p.toNat ++ be 4 x.r.toNat ++ be 2 x.h.toNat ++ be 4 x.b.toNat ++ be 4 x.l.toNat ++ be 4 x.s.toNat ++ be 4 x.f.toNat ++ z) (be 8 x.g.toNat ++ be 4 x.p.toNat ++ be 4 x.r.toNat ++ be 2 x.h.toNat ++ be 4 x.b.toNat) (be 4 x.l.toNat) _ x.l 22 4 (by simp only [List.append_assoc]; rfl) (by simp only [List.length_append]; omega) (by omega) (by omega) l1.1 (by omega) (by omega) rfl
  have c6 := get_at (be 8 x.g.toNat ++ be 4 x.p.toNat ++ be 4 x.r.toNat ++ be 2 x.h.toNat ++ be 4 x.b.toNat ++ be 4 x.l.toNat ++ be 4 x.s.toNat ++ be 4 x.f.toNat ++ z) (be 8 x.g.toNat ++ be 4 x.p.toNat ++ be 4 x.r.toNat ++ be 2 x.h.toNat ++ be 4 x.b.toNat ++ be 4 x.l.toNat) (be 4 x.s.toNat) _ x.s 26 4 (by simp only [List.append_assoc]; rfl) (by simp only [List.length_append]; omega) (by omega) (by omega) s1.1 (by omega) (by omega) rfl
  have c7 := get_at (be 8 x.g.toNat ++ be 4 x.p.toNat ++ be 4 x.r.toNat ++ be 2 x.h.toNat ++ be 4 x.b.toNat ++ be 4 x.l.toNat ++ be 4 x.s.toNat ++ be 4 x.f.toNat ++ z) (be 8 x.g.toNat ++ be 4 x.p.toNat ++ be 4 x.r.toNat ++ be 2 x.h.toNat ++ be 4 x.b.toNat ++ be 4 x.l.toNat ++ be 4 x.s.toNat) (be 4 x.f.toNat) _ x.f 30 4 (by simp only [List.append_assoc]; rfl) (by simp only [List.length_append]; omega) (by omega) (by omega) f1.1 (by omega) (by omega) rfl
  simp only [Int.cast_ofNat_Int] at c0 c1 c2 c3 c4 c5 c6 c7
  rw [c1, c2, c3, c4, c5, c6, c7]
  have c0' : (get (be 8 x.g.toNat ++ be 4 x.p.toNat ++ be 4 x.r.toNat ++ be 2 x.h.toNat ++ be 4 x.b.toNat ++ be 4 x.l.toNat ++ be 4 x.s.toNat ++ be 4 x.f.toNat ++ z) 0 8).1 = x.g := c0
  rw [c0']
theorem sErr_page {x : Sup} (h : x.chk = 0) : sErr x.page = 0 ∧ sSup x.page = x := by
  have ho := page_open x.sealOk
  simp only [Int.toNat_one, Int.toNat_zero] at ho
  rw [Sup.page_eq h]
  obtain ⟨h1, h2, h3, h4, h5⟩ := ho
  have hd : dec (openBody (P.page 1 0 0 x.body)) = x := by rw [h5]; exact dec_body_page h _
  have hz : ((openBody (P.page 1 0 0 x.body)).drop 34).all (· == 0) = true := by
    rw [h5, List.drop_append_of_le_length (by rw [x.body_length]; omega), List.drop_eq_nil_of_le (by rw [x.body_length]; omega)]
    simp
  have hg := sErr_good h1 ⟨h2, h3, h4, hz, by rw [hd]; exact h⟩
  rw [hd] at hg
  exact hg

/-- A page of the one, with sectors of the other. -/
def bitOf (keep i : Nat) : Bool := keep / 2 ^ i % 2 == 1
def tearTo (a b : List UInt8) (keep : Nat) : Nat → List UInt8
  | 0 => a
  | j + 1 => if bitOf keep (j / 64) then (tearTo a b keep j).set j (b.getD j 0) else tearTo a b keep j
theorem tearTo_length (a b : List UInt8) (keep j : Nat) : (tearTo a b keep j).length = a.length := by
  induction j with
  | zero => rfl
  | succ j ih => unfold tearTo; split <;> simp [ih]
theorem tearTo_eq (a b : List UInt8) (keep : Nat) (hl : a.length = b.length) (ht : ∀ i, 64 ≤ i → a.getD i 0 = b.getD i 0) (j : Nat) (hj : j ≤ a.length) :
    tearTo a b keep j = if bitOf keep 0 then b.take j ++ a.drop j else a := by
  induction j with
  | zero => simp [tearTo]
  | succ j ih =>
    have ih := ih (by omega)
    unfold tearTo
    rw [ih]
    have ea : a.getD j 0 = a[j] := by simp [List.getD, show j < a.length by omega]
    have eb : b.getD j 0 = b[j] := by simp [List.getD, show j < b.length by omega]
    have htj := ht j
    rw [ea, eb] at htj
    rw [eb]
    have hd : a.drop j = a[j] :: a.drop (j + 1) := List.drop_eq_getElem_cons (by omega)
    have hb : b.take (j + 1) = b.take j ++ [b[j]] := by rw [List.take_succ_eq_append_getElem (by omega)]
    rcases h0 : bitOf keep 0 with _ | _
    · simp only [if_neg (by simp : ¬ (false = true))]
      split
      · rename_i h1
        have h64 : 64 ≤ j := by
          rcases Nat.lt_or_ge j 64 with hh | hh
          · rw [Nat.div_eq_of_lt hh, h0] at h1; cases h1
          · exact hh
        rw [← htj h64]
        simp
      · rfl
    · simp only [if_true]
      have hs : (b.take j ++ a.drop j).set j b[j] = b.take (j + 1) ++ a.drop (j + 1) := by
        rw [List.set_append_right _ _ (by simp; omega), hd, hb]
        have : j - (b.take j).length = 0 := by simp; omega
        rw [this]
        simp only [List.set_cons_zero, List.append_assoc, List.singleton_append]
      split
      · exact hs
      · rename_i h1
        have h64 : 64 ≤ j := by
          rcases Nat.lt_or_ge j 64 with hh | hh
          · rw [Nat.div_eq_of_lt hh, h0] at h1; simp at h1
          · exact hh
        rw [← hs, ← htj h64, hd, List.set_append_right _ _ (by simp; omega)]
        have : j - (b.take j).length = 0 := by simp; omega
        rw [this]
        simp only [List.set_cons_zero]
theorem Sup.page_length {x : Sup} (h : x.chk = 0) : x.page.length = 256 := by rw [Sup.page_eq h]; exact P.page_length _ _ _ _ (by rw [x.body_length]; omega)
theorem Sup.page_tail {x : Sup} (h : x.chk = 0) (i : Nat) (hi : 64 ≤ i) : x.page.getD i 0 = 0 := by
  rw [Sup.page_eq h]
  obtain ⟨h0, h1, h2, h3, hp⟩ := P.page_eq 1 0 0 x.body
  rw [hp]
  have hl := x.body_length
  simp only [List.getD_eq_getElem?_getD]
  rw [List.getElem?_append_right (by simp; omega), List.getElem?_append_right (by simp [hl]; omega)]
  simp only [List.getElem?_replicate]
  split <;> rfl
theorem tear_page {x y : Sup} (hx : x.chk = 0) (hy : y.chk = 0) (keep : Nat) : tearTo x.page y.page keep 256 = x.page ∨ tearTo x.page y.page keep 256 = y.page := by
  have h := tearTo_eq x.page y.page keep (by rw [Sup.page_length hx, Sup.page_length hy]) (fun i hi => by rw [Sup.page_tail hx i hi, Sup.page_tail hy i hi]) 256 (by rw [Sup.page_length hx]; omega)
  have l1 := Sup.page_length hx
  have l2 := Sup.page_length hy
  rcases hb : bitOf keep 0 with _ | _
  · left; rw [h, hb]; rfl
  · right; rw [h, hb]; simp [List.take_of_length_le, List.drop_eq_nil_of_le, l1, l2]
end Go.Proofs.Ytpdmhnppibfmkaa.P
