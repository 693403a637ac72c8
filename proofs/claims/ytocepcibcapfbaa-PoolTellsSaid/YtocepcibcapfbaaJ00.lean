/- Plain mathematics of chapters 1 and 6: numbers in bytes, the CRC. Nothing of Go. -/
namespace Go.Proofs.Ytocepcibcapfbaa.P

/-- The number that bytes are, the first one the greatest. -/
def num (l : List UInt8) : Nat := l.foldl (fun x c => x * 256 + c.toNat) 0

/-- Do n bytes lie wholly in len bytes from at on? -/
def lies (len : Nat) (at_ n : Int) : Bool := decide (1 ≤ n ∧ n ≤ 8 ∧ 0 ≤ at_ ∧ at_ + n ≤ len)

def slice (b : List UInt8) (at_ n : Nat) : List UInt8 := (b.drop at_).take n

/-- The number that stands there. -/
def get (b : List UInt8) (at_ n : Int) : Int × Bool :=
  if lies b.length at_ n then
    let x := num (slice b at_.toNat n.toNat)
    if 4611686018427387904 < x then (0, false) else ((x : Int), true)
  else (0, false)

/-- x in n bytes. -/
def be : Nat → Nat → List UInt8
  | 0, _ => []
  | n + 1, x => be n (x / 256) ++ [UInt8.ofNat (x % 256)]
/-- b with x in n bytes from at on. -/
def put (b : List UInt8) (at_ n x : Int) : Option (List UInt8) :=
  if lies b.length at_ n ∧ 0 ≤ x ∧ x ≤ 4611686018427387904 ∧ x < 256 ^ n.toNat then
    some (b.take at_.toNat ++ be n.toNat x.toNat ++ b.drop (at_.toNat + n.toNat)) else none

def crcBit (x : Nat) : Nat := if x % 2 = 1 then x / 2 ^^^ 3988292384 else x / 2
def crcBits : Nat → Nat → Nat
  | 0, x => x
  | k + 1, x => crcBits k (crcBit x)
def crcByte (x : Nat) (c : UInt8) : Nat := crcBits 8 (x ^^^ c.toNat)
def crcFrom (x : Nat) (l : List UInt8) : Nat := l.foldl crcByte x
def crc (l : List UInt8) : Nat := crcFrom 4294967295 l ^^^ 4294967295

end Go.Proofs.Ytocepcibcapfbaa.P
