/- Plain mathematics of chapter 6: sealed and opened again; one byte that is another one. Nothing of Go. -/
import Derived.Test.YtpdmhnppibfmkaaPage
namespace Go.Proofs.Ytpdmhnppibfmkaa.P

theorem page_take (k l c : Nat) (b : List UInt8) : (page k l c b).take 4 = be 4 (crc (tail k l c b)) := by
  unfold page
  rw [List.take_append_of_le_length (by rw [be_length]; omega), List.take_of_length_le (by rw [be_length]; omega)]
theorem page_drop (k l c : Nat) (b : List UInt8) : (page k l c b).drop 4 = tail k l c b := by
  unfold page
  rw [List.drop_append_of_le_length (by rw [be_length]; omega), List.drop_eq_nil_of_le (by rw [be_length]; omega), List.nil_append]
theorem sealErr_zero {k l c : Int} {n : Nat} (h : sealErr k l c n = 0) : 1 ≤ k ∧ k ≤ 5 ∧ 0 ≤ l ∧ l ≤ 255 ∧ 0 ≤ c ∧ c ≤ 65535 ∧ n ≤ 248 := by
  unfold sealErr at h
  split at h
  · omega
  · split at h
    · omega
    · omega
/-- What stands in a page that was sealed. -/
theorem page_eq (k l c : Nat) (b : List UInt8) : ∃ h0 h1 h2 h3 : UInt8, page k l c b = [h0, h1, h2, h3, UInt8.ofNat k, UInt8.ofNat l, UInt8.ofNat (c / 256 % 256), UInt8.ofNat (c % 256)] ++ (b ++ List.replicate (248 - b.length) 0) := by
  unfold page
  have h4 := be_length 4 (crc (tail k l c b))
  generalize be 4 (crc (tail k l c b)) = H at h4
  match H, h4 with
  | [h0, h1, h2, h3], _ =>
    refine ⟨h0, h1, h2, h3, ?_⟩
    have e : be 2 c = [UInt8.ofNat (c / 256 % 256), UInt8.ofNat (c % 256)] := by simp [be]
    simp [tail, e]
theorem page_open {k l c : Int} {b : List UInt8} (h : sealErr k l c b.length = 0) :
    openErr (page k.toNat l.toNat c.toNat b) = 0 ∧ openKind (page k.toNat l.toNat c.toNat b) = k.toNat ∧ openLevel (page k.toNat l.toNat c.toNat b) = l.toNat ∧
      openCount (page k.toNat l.toNat c.toNat b) = c.toNat ∧ openBody (page k.toNat l.toNat c.toNat b) = b ++ List.replicate (248 - b.length) 0 := by
  obtain ⟨k1, k2, l1, l2, c1, c2, hb⟩ := sealErr_zero h
  have hlen := page_length k.toNat l.toNat c.toNat b hb
  have ht := page_take k.toNat l.toNat c.toNat b
  have hd := page_drop k.toNat l.toNat c.toNat b
  obtain ⟨h0, h1, h2, h3, hp⟩ := page_eq k.toNat l.toNat c.toNat b
  have e4 : (page k.toNat l.toNat c.toNat b).getD 4 0 = UInt8.ofNat k.toNat := by rw [hp]; rfl
  have e5 : (page k.toNat l.toNat c.toNat b).getD 5 0 = UInt8.ofNat l.toNat := by rw [hp]; rfl
  have e6 : (page k.toNat l.toNat c.toNat b).getD 6 0 = UInt8.ofNat (c.toNat / 256 % 256) := by rw [hp]; rfl
  have e7 : (page k.toNat l.toNat c.toNat b).getD 7 0 = UInt8.ofNat (c.toNat % 256) := by rw [hp]; rfl
  have e8 : (page k.toNat l.toNat c.toNat b).drop 8 = b ++ List.replicate (248 - b.length) 0 := by rw [hp]; rfl
  have hk : (UInt8.ofNat k.toNat).toNat = k.toNat := by simp; omega
  refine ⟨?_, ?_, ?_, ?_, e8⟩
  · unfold openErr
    rw [if_neg (by simpa using hlen), if_neg (by rw [ht, hd, num_be 4 _ (by have := crc_lt (tail k.toNat l.toNat c.toNat b); omega)]; simp), e4, if_neg]
    rw [UInt8.lt_iff_toNat_lt, UInt8.lt_iff_toNat_lt, hk]
    have a1 : (1 : UInt8).toNat = 1 := rfl
    have a5 : (5 : UInt8).toNat = 5 := rfl
    omega
  · unfold openKind; rw [e4, hk]
  · unfold openLevel; rw [e5]; simp; omega
  · unfold openCount; rw [e6, e7]; simp; omega

theorem num_inj (a b : List UInt8) (h : a.length = b.length) (hn : num a = num b) : a = b := by
  rw [← be_num a, ← be_num b, h, hn]
/-- One byte that is another one is found. -/
theorem open_set (K : List UInt8) (i : Nat) (x : UInt8) (hi : i < K.length) (hx : x ≠ K[i]) (h : openErr K = 0) : openErr (K.set i x) = 5 := by
  have hlen := openErr_len K h
  have hsum : num (K.take 4) = crc (K.drop 4) := by
    unfold openErr at h
    rw [if_neg (by simpa using hlen)] at h
    by_cases h2 : num (K.take 4) = crc (K.drop 4)
    · exact h2
    · rw [if_pos h2] at h; omega
  have hne : num ((K.set i x).take 4) ≠ crc ((K.set i x).drop 4) := by
    by_cases h4 : i < 4
    · have e1 : (K.set i x).drop 4 = K.drop 4 := by rw [List.drop_set_of_lt h4]
      have e2 : (K.set i x).take 4 = (K.take 4).set i x := by rw [List.take_set]
      rw [e1, e2, ← hsum]
      intro hn
      have := num_inj _ _ (by simp) hn
      have h3 : ((K.take 4).set i x)[i]'(by simp; omega) = (K.take 4)[i]'(by simp; omega) := by simp only [this]
      simp at h3
      exact hx h3
    · have e1 : (K.set i x).take 4 = K.take 4 := by rw [List.take_set_of_le (by omega)]
      have e2 : (K.set i x).drop 4 = (K.drop 4).set (i - 4) x := by rw [List.drop_set, if_neg (by omega)]
      rw [e1, e2, hsum]
      have hi' : i - 4 < (K.drop 4).length := by simp; omega
      intro hn
      refine crc_set (K.drop 4) (i - 4) x hi' ?_ hn.symm
      simp only [List.getElem_drop]
      intro e
      exact hx (by rw [e]; congr 1; omega)
  unfold openErr
  rw [if_neg (by simpa using hlen), if_pos hne]
/-- What opens, sealed again, is those bytes. -/
theorem seal_open (r : List UInt8) (h : openErr r = 0) : sealErr (oK r) (oL r) (oC r) (oB r).length = 0 ∧ sealB (oK r) (oL r) (oC r) (oB r) = r := by
  have hlen := openErr_len r h
  have hsum : num (r.take 4) = crc (r.drop 4) := by
    unfold openErr at h
    rw [if_neg (by simpa using hlen)] at h
    by_cases h2 : num (r.take 4) = crc (r.drop 4)
    · exact h2
    · rw [if_pos h2] at h; omega
  have hk : 1 ≤ openKind r ∧ openKind r ≤ 5 := by
    unfold openErr at h
    rw [if_neg (by simpa using hlen), if_neg (by simpa using hsum)] at h
    by_cases h3 : r.getD 4 0 < 1 ∨ 5 < r.getD 4 0
    · rw [if_pos h3] at h; omega
    · rw [UInt8.lt_iff_toNat_lt, UInt8.lt_iff_toNat_lt] at h3
      have a1 : (1 : UInt8).toNat = 1 := rfl
      have a5 : (5 : UInt8).toNat = 5 := rfl
      unfold openKind
      omega
  have hl : openLevel r ≤ 255 := by have := (r.getD 5 0).toNat_lt; unfold openLevel; omega
  have hc : openCount r ≤ 65535 := by have := (r.getD 6 0).toNat_lt; have := (r.getD 7 0).toNat_lt; unfold openCount; omega
  have hb : (openBody r).length = 248 := by simp [openBody]; omega
  have e1 : oK r = openKind r := by simp [oK, h]
  have e2 : oL r = openLevel r := by simp [oL, h]
  have e3 : oC r = openCount r := by simp [oC, h]
  have e4 : oB r = openBody r := by simp [oB, h]
  have hz : sealErr (oK r) (oL r) (oC r) (oB r).length = 0 := by
    rw [e1, e2, e3, e4, hb]
    unfold sealErr
    rw [if_neg (by omega), if_neg (by omega)]
  refine ⟨hz, ?_⟩
  unfold sealB
  rw [if_pos hz, e1, e2, e3, e4]
  simp only [Int.toNat_natCast]
  have ht : tail (openKind r) (openLevel r) (openCount r) (openBody r) = r.drop 4 := by
    unfold tail
    have h4 : r.drop 4 = r.getD 4 0 :: r.getD 5 0 :: r.getD 6 0 :: r.getD 7 0 :: r.drop 8 := by
      rw [List.drop_eq_getElem_cons (show 4 < r.length by omega), List.drop_eq_getElem_cons (show 4 + 1 < r.length by omega), List.drop_eq_getElem_cons (show 4 + 1 + 1 < r.length by omega),
        List.drop_eq_getElem_cons (show 4 + 1 + 1 + 1 < r.length by omega)]
      simp only [List.getD_eq_getElem?_getD, List.getElem?_eq_getElem (show 4 < r.length by omega), List.getElem?_eq_getElem (show 5 < r.length by omega), List.getElem?_eq_getElem (show 6 < r.length by omega), List.getElem?_eq_getElem (show 7 < r.length by omega), Option.getD_some]
    have h6 := (r.getD 6 0).toNat_lt
    have h7 := (r.getD 7 0).toNat_lt
    have e6 : be 2 (openCount r) = [r.getD 6 0, r.getD 7 0] := by
      unfold openCount
      simp only [be, List.nil_append]
      have q1 : ((r.getD 6 0).toNat * 256 + (r.getD 7 0).toNat) / 256 % 256 = (r.getD 6 0).toNat := by omega
      have q2 : ((r.getD 6 0).toNat * 256 + (r.getD 7 0).toNat) % 256 = (r.getD 7 0).toNat := by omega
      rw [q1, q2]
      simp
    rw [h4, e6, hb]
    simp [openKind, openLevel, openBody]
  unfold page
  rw [ht, ← hsum]
  have := be_num (r.take 4)
  rw [show (r.take 4).length = 4 by simp; omega] at this
  rw [this, List.take_append_drop]
/-- Two pages have the same bytes just if they are the same, but for noughts behind their bodies. -/
theorem page_same {k1 l1 c1 k2 l2 c2 : Int} {b1 b2 : List UInt8} (h1 : sealErr k1 l1 c1 b1.length = 0) (h2 : sealErr k2 l2 c2 b2.length = 0) :
    (sealB k1 l1 c1 b1 = sealB k2 l2 c2 b2) ↔ (oK (sealB k1 l1 c1 b1) = oK (sealB k2 l2 c2 b2) ∧ oL (sealB k1 l1 c1 b1) = oL (sealB k2 l2 c2 b2) ∧ oC (sealB k1 l1 c1 b1) = oC (sealB k2 l2 c2 b2) ∧ oB (sealB k1 l1 c1 b1) = oB (sealB k2 l2 c2 b2)) := by
  constructor
  · intro h; rw [h]; exact ⟨rfl, rfl, rfl, rfl⟩
  · rintro ⟨ek, el, ec, eb⟩
    have hx : openErr (sealB k1 l1 c1 b1) = 0 := by unfold sealB; rw [if_pos h1]; exact (page_open h1).1
    have hy : openErr (sealB k2 l2 c2 b2) = 0 := by unfold sealB; rw [if_pos h2]; exact (page_open h2).1
    rw [← (seal_open _ hx).2, ← (seal_open _ hy).2, ek, el, ec, eb]
end Go.Proofs.Ytpdmhnppibfmkaa.P
