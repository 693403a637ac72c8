/- Devices walked through: what is reached. Plain law: the walk. -/
import Derived.Test.YtocepcibcapfbaaJ11
import Derived.Test.YtocepcibcapfbaaJ10
namespace Go.Proofs.Ytocepcibcapfbaa.P

/-- Page n of an image. -/
def pg (img : List UInt8) (n : Nat) : List UInt8 := (img.drop (256 * n)).take 256
/-- What was reached: of each page its kind (0: it was not); the pieces, their text. -/
structure St where
  met : Nat → Nat
  ps : List Q
  tx : List UInt8
def St.hit (st : St) (n k : Nat) : St := { st with met := fun m => if m = n then k else st.met m }
/-- What lies below a page. -/
structure Sm where
  p : Int
  b : Int
  l : Int
deriving DecidableEq
def Sm.add (x y : Sm) : Sm := ⟨x.p + y.p, x.b + y.b, x.l + y.l⟩
def nls (t : List UInt8) : Nat := t.count 10
def free? (np : Nat) (st : St) (n : Nat) : Bool := decide (st.met n = 0 ∧ 2 ≤ n ∧ n < np)
/-- May page n be a text page now? -/
def txAt (img : List UInt8) (np : Nat) (st : St) (n : Nat) : Option St :=
  if st.met n = 4 then some st else if free? np st n = true ∧ txErr (pg img n) = 0 then some (st.hit n 4) else none
def cutP (img : List UInt8) (p : Q) : List UInt8 := slice (txL (pg img p.a.toNat)) p.b.toNat p.c.toNat
/-- lim: no more than a text may have. -/
def piece (img : List UInt8) (np : Nat) (lim : Bool) (st : St) (p : Q) : Option St :=
  (txAt img np st p.a.toNat).bind fun s =>
    if p.b.toNat + p.c.toNat ≤ (txL (pg img p.a.toNat)).length ∧ (nls (cutP img p) : Int) = p.d ∧ (lim = true → (s.tx ++ cutP img p).length ≤ 1048576) then some { s with ps := s.ps ++ [p], tx := s.tx ++ cutP img p } else none
def smOf (l : List Q) : Sm := l.foldl (fun s p => s.add ⟨1, p.c, p.d⟩) ⟨0, 0, 0⟩
def leafW (img : List UInt8) (np : Nat) (lim : Bool) (n : Nat) (root : Bool) (st : St) : Option (Sm × St) :=
  if free? np st n = true ∧ pcErr (pg img n) = 0 ∧ (root = true ∨ 10 ≤ (pcL (pg img n)).length) then
    ((pcL (pg img n)).foldlM (piece img np lim) (st.hit n 3)).map fun s => (smOf (pcL (pg img n)), s)
  else none
def kidStep (f : Nat → Bool → St → Option (Sm × St)) (x : Sm × St) (k : Q) : Option (Sm × St) :=
  (f k.a.toNat false x.2).bind fun y => if y.1 = ⟨k.b, k.c, k.d⟩ then some (x.1.add y.1, y.2) else none
def below (img : List UInt8) (np : Nat) (lim : Bool) : Nat → Nat → Bool → St → Option (Sm × St)
  | 0, n, root, st => leafW img np lim n root st
  | lv + 1, n, root, st =>
    if free? np st n = true ∧ kdErr (pg img n) = 0 ∧ kdV (pg img n) = ((lv + 1 : Nat) : Int) ∧ 2 ≤ (kdL (pg img n)).length ∧ (root = true ∨ 6 ≤ (kdL (pg img n)).length) then
      (kdL (pg img n)).foldlM (kidStep (below img np lim lv)) (⟨0, 0, 0⟩, st.hit n 2)
    else none
/-- What a walk tells. -/
structure Rep where
  ps : List Q
  tx : List UInt8
  state : List UInt8
  met : Nat → Nat
end Go.Proofs.Ytocepcibcapfbaa.P
