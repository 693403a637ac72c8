/- Plain mathematics of chapter 6: pages that are sealed. Nothing of Go. -/
import Derived.Test.YtpdmhnppibfmkaaPure
namespace Go.Proofs.Ytpdmhnppibfmkaa.P

/-- May such a page be? 0: it may. -/
def sealErr (k l c : Int) (n : Nat) : Int :=
  if k < 1 ∨ 5 < k ∨ l < 0 ∨ 255 < l ∨ c < 0 ∨ 65535 < c then 1 else if 248 < n then 3 else 0
/-- A page's bytes behind its sum. -/
def tail (k l c : Nat) (body : List UInt8) : List UInt8 :=
  [UInt8.ofNat k, UInt8.ofNat l] ++ be 2 c ++ body ++ List.replicate (248 - body.length) 0
/-- A page's bytes. -/
def page (k l c : Nat) (body : List UInt8) : List UInt8 := be 4 (crc (tail k l c body)) ++ tail k l c body
theorem tail_length (k l c : Nat) (body : List UInt8) (h : body.length ≤ 248) : (tail k l c body).length = 252 := by
  simp [tail, be_length]; omega
theorem page_length (k l c : Nat) (body : List UInt8) (h : body.length ≤ 248) : (page k l c body).length = 256 := by
  simp [page, be_length, tail_length k l c body h]

/-- What is wrong with a page's bytes; 0: nothing. -/
def openErr (b : List UInt8) : Int :=
  if b.length ≠ 256 then 1 else if num (b.take 4) ≠ crc (b.drop 4) then 5 else if b.getD 4 0 < 1 ∨ 5 < b.getD 4 0 then 4 else 0
def openKind (b : List UInt8) : Nat := (b.getD 4 0).toNat
def openLevel (b : List UInt8) : Nat := (b.getD 5 0).toNat
def openCount (b : List UInt8) : Nat := (b.getD 6 0).toNat * 256 + (b.getD 7 0).toNat
def openBody (b : List UInt8) : List UInt8 := b.drop 8

/-- What Seal tells: its bytes, none where the page may not be. -/
def sealB (k l c : Int) (b : List UInt8) : List UInt8 := if sealErr k l c b.length = 0 then page k.toNat l.toNat c.toNat b else []
/-- What Open tells, noughts where something is wrong. -/
def oK (l : List UInt8) : Int := if openErr l = 0 then openKind l else 0
def oL (l : List UInt8) : Int := if openErr l = 0 then openLevel l else 0
def oC (l : List UInt8) : Int := if openErr l = 0 then openCount l else 0
def oB (l : List UInt8) : List UInt8 := if openErr l = 0 then openBody l else []
theorem openErr_len (l : List UInt8) (h : openErr l = 0) : l.length = 256 := by
  unfold openErr at h
  by_cases h1 : l.length = 256
  · exact h1
  · rw [if_pos h1] at h; omega
theorem oB_length (l : List UInt8) : (oB l).length ≤ 248 := by
  unfold oB
  split
  · rename_i h
    have := openErr_len l h
    simp [openBody]
    omega
  · simp
theorem sealB_length (k l c : Int) (b : List UInt8) : (sealB k l c b).length ≤ 256 := by
  unfold sealB
  split
  · rename_i h
    unfold sealErr at h
    split at h
    · omega
    · split at h
      · omega
      · rw [page_length _ _ _ _ (by omega)]; omega
  · simp
end Go.Proofs.Ytpdmhnppibfmkaa.P
