/- Plain mathematics of chapters 1 and 6: numbers in bytes, the CRC. Nothing of Go. -/
import Derived.WalkKit
import Derived.Lib.Hide
import Derived.OneCell
import Derived.Deep.Draws
namespace Go.Proofs.YtocepcibcapfbaaGreat.P

/-- The number that bytes are, the first one the greatest. -/
def num (l : List UInt8) : Nat := l.foldl (fun x c => x * 256 + c.toNat) 0

/-- Do n bytes lie wholly in len bytes from at on? -/
def lies (len : Nat) (at_ n : Int) : Bool := decide (1 ≤ n ∧ n ≤ 8 ∧ 0 ≤ at_ ∧ at_ + n ≤ len)

def slice (b : List UInt8) (at_ n : Nat) : List UInt8 := (b.drop at_).take n

/-- The number that stands there. -/
def get (b : List UInt8) (at_ n : Int) : Int × Bool :=
  if lies b.length at_ n then
    let x := num (slice b at_.toNat n.toNat)
    if 4611686018427387904 < x then (0, false) else ((x : Int), true)
  else (0, false)

/-- x in n bytes. -/
def be : Nat → Nat → List UInt8
  | 0, _ => []
  | n + 1, x => be n (x / 256) ++ [UInt8.ofNat (x % 256)]
/-- b with x in n bytes from at on. -/
def put (b : List UInt8) (at_ n x : Int) : Option (List UInt8) :=
  if lies b.length at_ n ∧ 0 ≤ x ∧ x ≤ 4611686018427387904 ∧ x < 256 ^ n.toNat then
    some (b.take at_.toNat ++ be n.toNat x.toNat ++ b.drop (at_.toNat + n.toNat)) else none

def crcBit (x : Nat) : Nat := if x % 2 = 1 then x / 2 ^^^ 3988292384 else x / 2
def crcBits : Nat → Nat → Nat
  | 0, x => x
  | k + 1, x => crcBits k (crcBit x)
def crcByte (x : Nat) (c : UInt8) : Nat := crcBits 8 (x ^^^ c.toNat)
def crcFrom (x : Nat) (l : List UInt8) : Nat := l.foldl crcByte x
def crc (l : List UInt8) : Nat := crcFrom 4294967295 l ^^^ 4294967295

end Go.Proofs.YtocepcibcapfbaaGreat.P
/- Words on worlds: a slice of bytes that reads as a list; which blocks a call may have turned. -/
namespace Go.Proofs.YtocepcibcapfbaaGreat
set_option linter.unusedVariables false
set_option linter.unusedSimpArgs false
open Go.RowKit

/-- A byte as a value. -/
def bv (c : UInt8) : Value := .int .u8 (c.toNat : Int)
def bvs (l : List UInt8) : List Value := l.map bv
theorem bvs_length (l : List UInt8) : (bvs l).length = l.length := by simp [bvs]
theorem bvs_append (l k : List UInt8) : bvs (l ++ k) = bvs l ++ bvs k := by simp [bvs]
theorem bvs_at (l : List UInt8) (i : Nat) (h : i < l.length) : (bvs l)[i]? = some (bv l[i]) := by simp [bvs, h]
theorem bvs_one (l : List UInt8) : ∀ u ∈ bvs l, u.oneCell' = true := by
  intro u hu
  simp only [bvs, List.mem_map] at hu
  obtain ⟨c, _, rfl⟩ := hu
  rfl

/-- A slice of bytes (nil too) that reads as a list. -/
def Rd (w : World) (a : Option Addr) (len : Nat) (l : List UInt8) : Prop :=
  l.length = len ∧ len ≤ maxLen ∧ ∀ i (h : i < l.length), ∃ p, a = some p ∧ w.cell? (p.add i) = some (bv l[i])
theorem Rd.len {w : World} {a : Option Addr} {len : Nat} {l : List UInt8} (h : Rd w a len l) : l.length = len := h.1
theorem Rd.at {w : World} {a : Option Addr} {len : Nat} {l : List UInt8} (h : Rd w a len l) (i : Nat) (hi : i < l.length) :
    ∃ p, a = some p ∧ w.cell? (p.add i) = some (bv l[i]) := h.2.2 i hi
theorem Rd.nil (w : World) (a : Option Addr) : Rd w a 0 [] := ⟨rfl, by unfold maxLen; omega, fun i h => by simp at h⟩
theorem Rd.ptr {w : World} {a : Option Addr} {len : Nat} {l : List UInt8} (h : Rd w a len l) (h0 : 0 < l.length) :
    ∃ p, a = some p ∧ ∀ i (hi : i < l.length), w.cell? (p.add i) = some (bv l[i]) := by
  obtain ⟨p, rfl, _⟩ := h.2.2 0 h0
  refine ⟨p, rfl, fun i hi => ?_⟩
  obtain ⟨q, e, hq⟩ := h.2.2 i hi
  cases e
  exact hq
theorem Rd.of_cells {w w' : World} {a : Option Addr} {len : Nat} {l : List UInt8} (h : Rd w a len l)
    (hc : ∀ p, a = some p → ∀ i, i < l.length → w'.cell? (p.add i) = w.cell? (p.add i)) : Rd w' a len l :=
  ⟨h.1, h.2.1, fun i hi => by obtain ⟨p, e, hp⟩ := h.2.2 i hi; exact ⟨p, e, by rw [hc p e i hi]; exact hp⟩⟩
theorem add_block (p : Addr) (i : Nat) : (p.add i).block = p.block := by unfold Addr.add; split <;> rfl
theorem lt_of_cell {w : World} {a : Addr} {v : Value} (h : w.cell? a = some v) : a.block < w.heap.size := World.block_lt_of_cell? w a h
theorem alloc_new (w : World) (o : Obj) (n : Nat) (h : n = w.heap.size) : (w.alloc o).heap[n]? = some o := by
  subst h
  show (w.heap.push o)[w.heap.size]? = _
  simp
theorem alloc_old {w : World} {n : Nat} {x : Obj} (h : w.heap[n]? = some x) (o : Obj) : (w.alloc o).heap[n]? = some x := by
  rw [Below.heap_alloc _ _ _ (lt_of_block h)]; exact h
theorem cell_blk {w : World} {g : Nat} {cs : Array Value} {t : TypeId} {fr : Nat × Nat} (h : w.heap[g]? = some (.cells cs t fr)) (i : Nat) : w.cell? ⟨g, i, none⟩ = cs[i]? := by simp [World.cell?, h]
theorem free_blk {w : World} {g : Nat} {cs : Array Value} {t : TypeId} (h : w.heap[g]? = some (.cells cs t (0, 0))) (i : Nat) : w.frozen? ⟨g, i, none⟩ = false := by simp [World.frozen?, h]
theorem blk_setCell {w : World} {g : Nat} {cs : Array Value} {t : TypeId} {fr : Nat × Nat} (h : w.heap[g]? = some (.cells cs t fr)) (i : Nat) (v : Value) :
    (w.setCell ⟨g, i, none⟩ v).heap[g]? = some (.cells (cs.setIfInBounds i v) t fr) := by
  simp [World.setCell, Array.getElem?_modify, h]
/-- Which blocks may be others: those of S, and new ones. -/
structure Chg (S : Nat → Prop) (w w' : World) : Prop where
  os : w'.os = w.os
  tape : w'.tape = w.tape
  output : w'.output = w.output
  size : w.heap.size ≤ w'.heap.size
  block : ∀ k, k < w.heap.size → ¬ S k → w'.heap[k]? = w.heap[k]?
theorem Chg.refl (S : Nat → Prop) (w : World) : Chg S w w := ⟨rfl, rfl, rfl, Nat.le_refl _, fun _ _ _ => rfl⟩
theorem Chg.trans {S : Nat → Prop} {a b c : World} (h : Chg S a b) (k : Chg S b c) : Chg S a c :=
  ⟨k.os.trans h.os, k.tape.trans h.tape, k.output.trans h.output, Nat.le_trans h.size k.size,
    fun i hi hs => (k.block i (Nat.lt_of_lt_of_le hi h.size) hs).trans (h.block i hi hs)⟩
/-- Two steps: the second may turn what the first one has made, too. -/
theorem Chg.then {S T : Nat → Prop} {a b c : World} (h : Chg S a b) (k : Chg T b c) (hT : ∀ i, i < a.heap.size → T i → S i) : Chg S a c :=
  ⟨k.os.trans h.os, k.tape.trans h.tape, k.output.trans h.output, Nat.le_trans h.size k.size,
    fun i hi hs => (k.block i (Nat.lt_of_lt_of_le hi h.size) (fun ht => hs (hT i hi ht))).trans (h.block i hi hs)⟩
theorem Chg.mono {S T : Nat → Prop} {a b : World} (h : Chg S a b) (hS : ∀ i, i < a.heap.size → S i → T i) : Chg T a b :=
  ⟨h.os, h.tape, h.output, h.size, fun i hi ht => h.block i hi (fun hs => ht (hS i hi hs))⟩
theorem Chg.drew {S : Nat → Prop} {a b : World} (h : Chg S a b) : Chg S a b.drew := ⟨h.os, h.tape, h.output, h.size, h.block⟩
theorem Chg.alloc {S : Nat → Prop} {a b : World} (h : Chg S a b) (o : Obj) : Chg S a (b.alloc o) :=
  h.trans ⟨rfl, rfl, rfl, by simp, fun k hk _ => Below.heap_alloc _ _ _ hk⟩
theorem Chg.setCell {S : Nat → Prop} {a b : World} (h : Chg S a b) (p : Addr) (u : Value) (hp : a.heap.size ≤ p.block ∨ S p.block) : Chg S a (b.setCell p u) :=
  h.then (T := fun k => k = p.block) ⟨rfl, rfl, rfl, by simp [World.setCell], fun k _ hk => Below.heap_setCell _ _ _ _ hk⟩
    (fun i hi e => by subst e; rcases hp with hp | hp; · omega
                      · exact hp)
theorem Chg.of_below {w w' : World} (h : Below w.heap.size w w') (S : Nat → Prop) : Chg S w w' := ⟨h.os, h.tape, h.output, h.size, fun k hk _ => h.block k hk⟩
/-- Below, and then whatever turns new blocks alone. -/
theorem below_chg {S : Nat → Prop} {a b c : World} {B : Nat} (h : Below B a b) (k : Chg S b c) (hB : B ≤ b.heap.size) (hS : ∀ i, S i → B ≤ i) : Below B a c :=
  h.trans ⟨k.os, k.tape, k.output, k.size, fun i hi => k.block i (by omega) (fun hs => by have := hS i hs; omega)⟩
theorem below_then {B : Nat} {a b c : World} (h : Below B a b) (k : Below b.heap.size b c) (hB : B ≤ b.heap.size) : Below B a c :=
  h.trans (k.mono hB)
theorem below_of_eq {w w' : World} (h : w = w') : Below w.heap.size w w' := h ▸ Below.refl _ w
theorem below_of_drew {B : Nat} {w w' : World} (h : Below B w.drew w') : Below B w w' := ⟨h.os, h.tape, h.output, h.size, h.block⟩
theorem below_drewN {B : Nat} {w W : World} (h : Below B w W) (n : Nat) : Below B w (W.drewN n) := ⟨h.os, h.tape, h.output, h.size, h.block⟩
theorem Rd.below {w w' : World} {a : Option Addr} {len : Nat} {l : List UInt8} (h : Rd w a len l) (hb : Below w.heap.size w w') : Rd w' a len l :=
  h.of_cells fun p e i hi => by
    obtain ⟨q, e', hq⟩ := h.2.2 i hi
    rw [e] at e'; cases e'
    exact hb.cell (lt_of_cell hq)
theorem Rd.chg {S : Nat → Prop} {w w' : World} {a : Option Addr} {len : Nat} {l : List UInt8} (h : Rd w a len l) (hb : Chg S w w') (hS : ∀ p, a = some p → ¬ S p.block) : Rd w' a len l :=
  h.of_cells fun p e i hi => by
    obtain ⟨q, e', hq⟩ := h.2.2 i hi
    rw [e] at e'; cases e'
    have hl := lt_of_cell hq
    exact World.cell?_of_block (w := w) (hb.block _ hl (by rw [add_block]; exact hS p e))
theorem Rd.drew {w : World} {a : Option Addr} {len : Nat} {l : List UInt8} (h : Rd w a len l) : Rd w.drew a len l := h
theorem Rd.take {w : World} {a : Option Addr} {len : Nat} {l : List UInt8} (h : Rd w a len l) (n : Nat) (hn : n ≤ len) : Rd w a n (l.take n) :=
  ⟨by have := h.1; simp; omega, by have := h.2.1; omega, fun i hi => by
    simp at hi
    obtain ⟨p, e, hp⟩ := h.2.2 i (by omega)
    exact ⟨p, e, by simpa using hp⟩⟩
end Go.Proofs.YtocepcibcapfbaaGreat
