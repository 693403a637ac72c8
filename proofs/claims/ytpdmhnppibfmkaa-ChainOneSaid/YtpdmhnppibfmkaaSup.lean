/- Superblocks: what they may be, their bytes. Plain law. -/
import Derived.Test.YtpdmhnppibfmkaaPage2
namespace Go.Proofs.Ytpdmhnppibfmkaa.P
structure Sup where
  g : Int
  p : Int
  r : Int
  h : Int
  b : Int
  l : Int
  s : Int
  f : Int
deriving DecidableEq

def inR (x a b : Int) : Bool := decide (a ≤ x) && decide (x ≤ b)
def place (x p : Int) : Bool := decide (x = 0) || inR x 2 (p - 1)
def Sup.may (x : Sup) : Bool :=
  inR x.g 1 1152921504606846976 && inR x.p 8 4096 && place x.r x.p && place x.s x.p && place x.f x.p && inR x.h 0 32 && (decide (x.h = 0) == decide (x.r = 0)) &&
  inR x.b 0 1048576 && inR x.l 0 x.b && (decide (x.b = 0) == decide (x.r = 0))
def Sup.chk (x : Sup) : Int := if x.may then 0 else 1
def Sup.body (x : Sup) : List UInt8 :=
  be 8 x.g.toNat ++ be 4 x.p.toNat ++ be 4 x.r.toNat ++ be 2 x.h.toNat ++ be 4 x.b.toNat ++ be 4 x.l.toNat ++ be 4 x.s.toNat ++ be 4 x.f.toNat
def Sup.page (x : Sup) : List UInt8 := if x.chk = 0 then P.page 1 0 0 x.body else []
theorem Sup.body_length (x : Sup) : x.body.length = 34 := by simp [Sup.body, be_length]
theorem Sup.chk_cases (x : Sup) : (x.may = true ∧ x.chk = 0) ∨ (x.may = false ∧ x.chk = 1) := by
  unfold Sup.chk
  cases x.may <;> simp
theorem inR_iff (x a b : Int) : inR x a b = true ↔ a ≤ x ∧ x ≤ b := by simp [inR]
theorem place_iff (x p : Int) : place x p = true ↔ x = 0 ∨ (2 ≤ x ∧ x ≤ p - 1) := by simp [place, inR]
theorem Sup.may_iff (x : Sup) : x.may = true ↔ (1 ≤ x.g ∧ x.g ≤ 1152921504606846976) ∧ (8 ≤ x.p ∧ x.p ≤ 4096) ∧ (x.r = 0 ∨ 2 ≤ x.r ∧ x.r ≤ x.p - 1) ∧ (x.s = 0 ∨ 2 ≤ x.s ∧ x.s ≤ x.p - 1) ∧
    (x.f = 0 ∨ 2 ≤ x.f ∧ x.f ≤ x.p - 1) ∧ (0 ≤ x.h ∧ x.h ≤ 32) ∧ (x.h = 0 ↔ x.r = 0) ∧ (0 ≤ x.b ∧ x.b ≤ 1048576) ∧ (0 ≤ x.l ∧ x.l ≤ x.b) ∧ (x.b = 0 ↔ x.r = 0) := by
  simp only [Sup.may, Bool.and_eq_true, inR_iff, place_iff, beq_iff_eq, decide_eq_decide]
  constructor
  · rintro ⟨⟨⟨⟨⟨⟨⟨⟨⟨a1, a2⟩, a3⟩, a4⟩, a5⟩, a6⟩, a7⟩, a8⟩, a9⟩, a10⟩
    exact ⟨a1, a2, a3, a4, a5, a6, a7, a8, a9, a10⟩
  · rintro ⟨a1, a2, a3, a4, a5, a6, a7, a8, a9, a10⟩
    exact ⟨⟨⟨⟨⟨⟨⟨⟨⟨a1, a2⟩, a3⟩, a4⟩, a5⟩, a6⟩, a7⟩, a8⟩, a9⟩, a10⟩
end Go.Proofs.Ytpdmhnppibfmkaa.P
