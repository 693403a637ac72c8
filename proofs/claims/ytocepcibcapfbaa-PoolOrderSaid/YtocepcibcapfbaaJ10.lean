/- Plain mathematics of chapter 6: pages that are sealed. Nothing of Go. -/
import Derived.Test.YtocepcibcapfbaaJ00
namespace Go.Proofs.Ytocepcibcapfbaa.P

/-- A page's bytes behind its sum. -/
def tail (k l c : Nat) (body : List UInt8) : List UInt8 :=
  [UInt8.ofNat k, UInt8.ofNat l] ++ be 2 c ++ body ++ List.replicate (248 - body.length) 0
/-- What is wrong with a page's bytes; 0: nothing. -/
def openErr (b : List UInt8) : Int :=
  if b.length ≠ 256 then 1 else if num (b.take 4) ≠ crc (b.drop 4) then 5 else if b.getD 4 0 < 1 ∨ 5 < b.getD 4 0 then 4 else 0
def openKind (b : List UInt8) : Nat := (b.getD 4 0).toNat
def openLevel (b : List UInt8) : Nat := (b.getD 5 0).toNat
def openCount (b : List UInt8) : Nat := (b.getD 6 0).toNat * 256 + (b.getD 7 0).toNat
def openBody (b : List UInt8) : List UInt8 := b.drop 8

end Go.Proofs.Ytocepcibcapfbaa.P
/- Superblocks: what they may be, their bytes. Plain law. -/
namespace Go.Proofs.Ytocepcibcapfbaa.P
structure Sup where
  g : Int
  p : Int
  r : Int
  h : Int
  b : Int
  l : Int
  s : Int
  f : Int
deriving DecidableEq

end Go.Proofs.Ytocepcibcapfbaa.P
/- Superblocks: what a page's bytes say. Plain law. -/
namespace Go.Proofs.Ytocepcibcapfbaa.P
def dec (b : List UInt8) : Sup := ⟨(get b 0 8).1, (get b 8 4).1, (get b 12 4).1, (get b 16 2).1, (get b 18 4).1, (get b 22 4).1, (get b 26 4).1, (get b 30 4).1⟩
end Go.Proofs.Ytocepcibcapfbaa.P
/- Cells: pieces and kids as bytes, there and back. Plain law. -/
namespace Go.Proofs.Ytocepcibcapfbaa.P
structure Q where
  a : Int
  b : Int
  c : Int
  d : Int
deriving DecidableEq

def Q.mayP (x : Q) : Bool := decide (2 ≤ x.a ∧ x.a < 4096 ∧ 1 ≤ x.c ∧ x.c ≤ 248 ∧ 0 ≤ x.b ∧ x.b ≤ 248 - x.c ∧ 0 ≤ x.d ∧ x.d ≤ x.c)
def Q.mayK (x : Q) : Bool := decide (2 ≤ x.a ∧ x.a < 4096 ∧ 1 ≤ x.b ∧ x.b ≤ x.c ∧ x.c ≤ 1048576 ∧ 0 ≤ x.d ∧ x.d ≤ x.c)
def decP (b : List UInt8) : Q := ⟨(get b 0 4).1, (get b 4 2).1, (get b 6 2).1, (get b 8 2).1⟩
def decK (b : List UInt8) : Q := ⟨(get b 0 4).1, (get b 4 4).1, (get b 8 8).1, (get b 16 4).1⟩
def okP (b : List UInt8) : Bool := (decP b).mayP && decide ((get b 10 2).1 = 0)
def okK (b : List UInt8) : Bool := (decK b).mayK
def chunk (sz : Nat) (body : List UInt8) (i : Nat) : List UInt8 := (body.drop (sz * i)).take sz
def cellsOf (dec : List UInt8 → Q) (sz : Nat) (body : List UInt8) (n : Nat) : List Q := (List.range n).map fun i => dec (chunk sz body i)
end Go.Proofs.Ytocepcibcapfbaa.P
