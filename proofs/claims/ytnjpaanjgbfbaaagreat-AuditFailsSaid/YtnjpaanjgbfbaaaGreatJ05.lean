/- Plain mathematics of chapter 6: pages that are sealed. Nothing of Go. -/
import Derived.Test.YtnjpaanjgbfbaaaGreatJ00
namespace Go.Proofs.YtnjpaanjgbfbaaaGreat.P

/-- May such a page be? 0: it may. -/
def sealErr (k l c : Int) (n : Nat) : Int :=
  if k < 1 ∨ 5 < k ∨ l < 0 ∨ 255 < l ∨ c < 0 ∨ 65535 < c then 1 else if 248 < n then 3 else 0
/-- A page's bytes behind its sum. -/
def tail (k l c : Nat) (body : List UInt8) : List UInt8 :=
  [UInt8.ofNat k, UInt8.ofNat l] ++ be 2 c ++ body ++ List.replicate (248 - body.length) 0
/-- A page's bytes. -/
def page (k l c : Nat) (body : List UInt8) : List UInt8 := be 4 (crc (tail k l c body)) ++ tail k l c body
theorem tail_length (k l c : Nat) (body : List UInt8) (h : body.length ≤ 248) : (tail k l c body).length = 252 := by
  simp [tail, be_length]; omega
theorem page_length (k l c : Nat) (body : List UInt8) (h : body.length ≤ 248) : (page k l c body).length = 256 := by
  simp [page, be_length, tail_length k l c body h]

/-- What is wrong with a page's bytes; 0: nothing. -/
def openErr (b : List UInt8) : Int :=
  if b.length ≠ 256 then 1 else if num (b.take 4) ≠ crc (b.drop 4) then 5 else if b.getD 4 0 < 1 ∨ 5 < b.getD 4 0 then 4 else 0
def openKind (b : List UInt8) : Nat := (b.getD 4 0).toNat
def openLevel (b : List UInt8) : Nat := (b.getD 5 0).toNat
def openCount (b : List UInt8) : Nat := (b.getD 6 0).toNat * 256 + (b.getD 7 0).toNat
def openBody (b : List UInt8) : List UInt8 := b.drop 8

/-- What Seal tells: its bytes, none where the page may not be. -/
def sealB (k l c : Int) (b : List UInt8) : List UInt8 := if sealErr k l c b.length = 0 then page k.toNat l.toNat c.toNat b else []
/-- What Open tells, noughts where something is wrong. -/
def oK (l : List UInt8) : Int := if openErr l = 0 then openKind l else 0
def oL (l : List UInt8) : Int := if openErr l = 0 then openLevel l else 0
def oC (l : List UInt8) : Int := if openErr l = 0 then openCount l else 0
def oB (l : List UInt8) : List UInt8 := if openErr l = 0 then openBody l else []
theorem openErr_len (l : List UInt8) (h : openErr l = 0) : l.length = 256 := by
  unfold openErr at h
  by_cases h1 : l.length = 256
  · exact h1
  · rw [if_pos h1] at h; omega
end Go.Proofs.YtnjpaanjgbfbaaaGreat.P
/- Plain mathematics of chapter 6: sealed and opened again; one byte that is another one. Nothing of Go. -/
namespace Go.Proofs.YtnjpaanjgbfbaaaGreat.P

theorem page_take (k l c : Nat) (b : List UInt8) : (page k l c b).take 4 = be 4 (crc (tail k l c b)) := by
  unfold page
  rw [List.take_append_of_le_length (by rw [be_length]; omega), List.take_of_length_le (by rw [be_length]; omega)]
theorem page_drop (k l c : Nat) (b : List UInt8) : (page k l c b).drop 4 = tail k l c b := by
  unfold page
  rw [List.drop_append_of_le_length (by rw [be_length]; omega), List.drop_eq_nil_of_le (by rw [be_length]; omega), List.nil_append]
theorem sealErr_zero {k l c : Int} {n : Nat} (h : sealErr k l c n = 0) : 1 ≤ k ∧ k ≤ 5 ∧ 0 ≤ l ∧ l ≤ 255 ∧ 0 ≤ c ∧ c ≤ 65535 ∧ n ≤ 248 := by
  unfold sealErr at h
  split at h
  · omega
  · split at h
    · omega
    · omega
/-- What stands in a page that was sealed. -/
theorem page_eq (k l c : Nat) (b : List UInt8) : ∃ h0 h1 h2 h3 : UInt8, page k l c b = [h0, h1, h2, h3, UInt8.ofNat k, UInt8.ofNat l, UInt8.ofNat (c / 256 % 256), UInt8.ofNat (c % 256)] ++ (b ++ List.replicate (248 - b.length) 0) := by
  unfold page
  have h4 := be_length 4 (crc (tail k l c b))
  generalize be 4 (crc (tail k l c b)) = H at h4
  match H, h4 with
  | [h0, h1, h2, h3], _ =>
    refine ⟨h0, h1, h2, h3, ?_⟩
    have e : be 2 c = [UInt8.ofNat (c / 256 % 256), UInt8.ofNat (c % 256)] := by simp [be]
    simp [tail, e]
theorem page_open {k l c : Int} {b : List UInt8} (h : sealErr k l c b.length = 0) :
    openErr (page k.toNat l.toNat c.toNat b) = 0 ∧ openKind (page k.toNat l.toNat c.toNat b) = k.toNat ∧ openLevel (page k.toNat l.toNat c.toNat b) = l.toNat ∧
      openCount (page k.toNat l.toNat c.toNat b) = c.toNat ∧ openBody (page k.toNat l.toNat c.toNat b) = b ++ List.replicate (248 - b.length) 0 := by
  obtain ⟨k1, k2, l1, l2, c1, c2, hb⟩ := sealErr_zero h
  have hlen := page_length k.toNat l.toNat c.toNat b hb
  have ht := page_take k.toNat l.toNat c.toNat b
  have hd := page_drop k.toNat l.toNat c.toNat b
  obtain ⟨h0, h1, h2, h3, hp⟩ := page_eq k.toNat l.toNat c.toNat b
  have e4 : (page k.toNat l.toNat c.toNat b).getD 4 0 = UInt8.ofNat k.toNat := by rw [hp]; rfl
  have e5 : (page k.toNat l.toNat c.toNat b).getD 5 0 = UInt8.ofNat l.toNat := by rw [hp]; rfl
  have e6 : (page k.toNat l.toNat c.toNat b).getD 6 0 = UInt8.ofNat (c.toNat / 256 % 256) := by rw [hp]; rfl
  have e7 : (page k.toNat l.toNat c.toNat b).getD 7 0 = UInt8.ofNat (c.toNat % 256) := by rw [hp]; rfl
  have e8 : (page k.toNat l.toNat c.toNat b).drop 8 = b ++ List.replicate (248 - b.length) 0 := by rw [hp]; rfl
  have hk : (UInt8.ofNat k.toNat).toNat = k.toNat := by simp; omega
  refine ⟨?_, ?_, ?_, ?_, e8⟩
  · unfold openErr
    rw [if_neg (by simpa using hlen), if_neg (by rw [ht, hd, num_be 4 _ (by have := crc_lt (tail k.toNat l.toNat c.toNat b); omega)]; simp), e4, if_neg]
    rw [UInt8.lt_iff_toNat_lt, UInt8.lt_iff_toNat_lt, hk]
    have a1 : (1 : UInt8).toNat = 1 := rfl
    have a5 : (5 : UInt8).toNat = 5 := rfl
    omega
  · unfold openKind; rw [e4, hk]
  · unfold openLevel; rw [e5]; simp; omega
  · unfold openCount; rw [e6, e7]; simp; omega

/-- What opens, sealed again, is those bytes. -/
theorem seal_open (r : List UInt8) (h : openErr r = 0) : sealErr (oK r) (oL r) (oC r) (oB r).length = 0 ∧ sealB (oK r) (oL r) (oC r) (oB r) = r := by
  have hlen := openErr_len r h
  have hsum : num (r.take 4) = crc (r.drop 4) := by
    unfold openErr at h
    rw [if_neg (by simpa using hlen)] at h
    by_cases h2 : num (r.take 4) = crc (r.drop 4)
    · exact h2
    · rw [if_pos h2] at h; omega
  have hk : 1 ≤ openKind r ∧ openKind r ≤ 5 := by
    unfold openErr at h
    rw [if_neg (by simpa using hlen), if_neg (by simpa using hsum)] at h
    by_cases h3 : r.getD 4 0 < 1 ∨ 5 < r.getD 4 0
    · rw [if_pos h3] at h; omega
    · rw [UInt8.lt_iff_toNat_lt, UInt8.lt_iff_toNat_lt] at h3
      have a1 : (1 : UInt8).toNat = 1 := rfl
      have a5 : (5 : UInt8).toNat = 5 := rfl
      unfold openKind
      omega
  have hl : openLevel r ≤ 255 := by have := (r.getD 5 0).toNat_lt; unfold openLevel; omega
  have hc : openCount r ≤ 65535 := by have := (r.getD 6 0).toNat_lt; have := (r.getD 7 0).toNat_lt; unfold openCount; omega
  have hb : (openBody r).length = 248 := by simp [openBody]; omega
  have e1 : oK r = openKind r := by simp [oK, h]
  have e2 : oL r = openLevel r := by simp [oL, h]
  have e3 : oC r = openCount r := by simp [oC, h]
  have e4 : oB r = openBody r := by simp [oB, h]
  have hz : sealErr (oK r) (oL r) (oC r) (oB r).length = 0 := by
    rw [e1, e2, e3, e4, hb]
    unfold sealErr
    rw [if_neg (by omega), if_neg (by omega)]
  refine ⟨hz, ?_⟩
  unfold sealB
  rw [if_pos hz, e1, e2, e3, e4]
  simp only [Int.toNat_natCast]
  have ht : tail (openKind r) (openLevel r) (openCount r) (openBody r) = r.drop 4 := by
    unfold tail
    have h4 : r.drop 4 = r.getD 4 0 :: r.getD 5 0 :: r.getD 6 0 :: r.getD 7 0 :: r.drop 8 := by
      rw [List.drop_eq_getElem_cons (show 4 < r.length by omega), List.drop_eq_getElem_cons (show 4 + 1 < r.length by omega), List.drop_eq_getElem_cons (show 4 + 1 + 1 < r.length by omega),
        List.drop_eq_getElem_cons (show 4 + 1 + 1 + 1 < r.length by omega)]
      simp only [List.getD_eq_getElem?_getD, List.getElem?_eq_getElem (show 4 < r.length by omega), List.getElem?_eq_getElem (show 5 < r.length by omega), List.getElem?_eq_getElem (show 6 < r.length by omega), List.getElem?_eq_getElem (show 7 < r.length by omega), Option.getD_some]
    have h6 := (r.getD 6 0).toNat_lt
    have h7 := (r.getD 7 0).toNat_lt
    have e6 : be 2 (openCount r) = [r.getD 6 0, r.getD 7 0] := by
      unfold openCount
      simp only [be, List.nil_append]
      have q1 : ((r.getD 6 0).toNat * 256 + (r.getD 7 0).toNat) / 256 % 256 = (r.getD 6 0).toNat := by omega
      have q2 : ((r.getD 6 0).toNat * 256 + (r.getD 7 0).toNat) % 256 = (r.getD 7 0).toNat := by omega
      rw [q1, q2]
      simp
    rw [h4, e6, hb]
    simp [openKind, openLevel, openBody]
  unfold page
  rw [ht, ← hsum]
  have := be_num (r.take 4)
  rw [show (r.take 4).length = 4 by simp; omega] at this
  rw [this, List.take_append_drop]
end Go.Proofs.YtnjpaanjgbfbaaaGreat.P
/- Superblocks: what they may be, their bytes. Plain law. -/
namespace Go.Proofs.YtnjpaanjgbfbaaaGreat.P
structure Sup where
  g : Int
  p : Int
  r : Int
  h : Int
  b : Int
  l : Int
  s : Int
  f : Int
deriving DecidableEq

def inR (x a b : Int) : Bool := decide (a ≤ x) && decide (x ≤ b)
def place (x p : Int) : Bool := decide (x = 0) || inR x 2 (p - 1)
def Sup.may (x : Sup) : Bool :=
  inR x.g 1 1152921504606846976 && inR x.p 8 4096 && place x.r x.p && place x.s x.p && place x.f x.p && inR x.h 0 32 && (decide (x.h = 0) == decide (x.r = 0)) &&
  inR x.b 0 1048576 && inR x.l 0 x.b && (decide (x.b = 0) == decide (x.r = 0))
def Sup.chk (x : Sup) : Int := if x.may then 0 else 1
def Sup.body (x : Sup) : List UInt8 :=
  be 8 x.g.toNat ++ be 4 x.p.toNat ++ be 4 x.r.toNat ++ be 2 x.h.toNat ++ be 4 x.b.toNat ++ be 4 x.l.toNat ++ be 4 x.s.toNat ++ be 4 x.f.toNat
def Sup.page (x : Sup) : List UInt8 := if x.chk = 0 then P.page 1 0 0 x.body else []
theorem Sup.body_length (x : Sup) : x.body.length = 34 := by simp [Sup.body, be_length]
theorem Sup.chk_cases (x : Sup) : (x.may = true ∧ x.chk = 0) ∨ (x.may = false ∧ x.chk = 1) := by
  unfold Sup.chk
  cases x.may <;> simp
theorem inR_iff (x a b : Int) : inR x a b = true ↔ a ≤ x ∧ x ≤ b := by simp [inR]
theorem place_iff (x p : Int) : place x p = true ↔ x = 0 ∨ (2 ≤ x ∧ x ≤ p - 1) := by simp [place, inR]
theorem Sup.may_iff (x : Sup) : x.may = true ↔ (1 ≤ x.g ∧ x.g ≤ 1152921504606846976) ∧ (8 ≤ x.p ∧ x.p ≤ 4096) ∧ (x.r = 0 ∨ 2 ≤ x.r ∧ x.r ≤ x.p - 1) ∧ (x.s = 0 ∨ 2 ≤ x.s ∧ x.s ≤ x.p - 1) ∧
    (x.f = 0 ∨ 2 ≤ x.f ∧ x.f ≤ x.p - 1) ∧ (0 ≤ x.h ∧ x.h ≤ 32) ∧ (x.h = 0 ↔ x.r = 0) ∧ (0 ≤ x.b ∧ x.b ≤ 1048576) ∧ (0 ≤ x.l ∧ x.l ≤ x.b) ∧ (x.b = 0 ↔ x.r = 0) := by
  simp only [Sup.may, Bool.and_eq_true, inR_iff, place_iff, beq_iff_eq, decide_eq_decide]
  constructor
  · rintro ⟨⟨⟨⟨⟨⟨⟨⟨⟨a1, a2⟩, a3⟩, a4⟩, a5⟩, a6⟩, a7⟩, a8⟩, a9⟩, a10⟩
    exact ⟨a1, a2, a3, a4, a5, a6, a7, a8, a9, a10⟩
  · rintro ⟨a1, a2, a3, a4, a5, a6, a7, a8, a9, a10⟩
    exact ⟨⟨⟨⟨⟨⟨⟨⟨⟨a1, a2⟩, a3⟩, a4⟩, a5⟩, a6⟩, a7⟩, a8⟩, a9⟩, a10⟩
end Go.Proofs.YtnjpaanjgbfbaaaGreat.P
