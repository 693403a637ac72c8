/- Chapters 5 and 9, plain: a device whose calls may fail, frames over it. Nothing of Go. -/
namespace Go.Proofs.YtocepcibcapfbaaGreat.P
set_option linter.unusedVariables false
set_option linter.unusedSimpArgs false

/-- Page n of a device's bytes. -/
def pgD (img : List UInt8) (n : Nat) : List UInt8 := (img.drop (256 * n)).take 256
/-- A device's bytes with page n another one. -/
def setP (img : List UInt8) (n : Nat) (b : List UInt8) : List UInt8 := img.take (256 * n) ++ (b ++ img.drop (256 * n + b.length))
theorem setP_length (img : List UInt8) (np n : Nat) (b : List UInt8) (hl : img.length = 256 * np) (hb : b.length = 256) (hn : n < np) : (setP img n b).length = 256 * np := by
  simp [setP, hb]
  omega
theorem pgD_length (img : List UInt8) (np n : Nat) (hl : img.length = 256 * np) (hn : n < np) : (pgD img n).length = 256 := by
  simp [pgD]
  omega
theorem pgD_get? (img : List UInt8) (m i : Nat) (hi : i < 256) : (pgD img m)[i]? = img[256 * m + i]? := by
  unfold pgD
  rw [List.getElem?_take, if_pos hi, List.getElem?_drop]
set_option maxRecDepth 100000 in
theorem setP_get? (img : List UInt8) (np n : Nat) (b : List UInt8) (hl : img.length = 256 * np) (hb : b.length = 256) (hn : n < np) (j : Nat) :
    (setP img n b)[j]? = if 256 * n ≤ j ∧ j < 256 * n + 256 then b[j - 256 * n]? else img[j]? := by
  unfold setP
  rw [hb]
  by_cases h1 : j < 256 * n
  · rw [if_neg (by omega), List.getElem?_append_left (by simp; omega), List.getElem?_take, if_pos h1]
  · have ht : (img.take (256 * n)).length = 256 * n := by simp; omega
    rw [List.getElem?_append_right (by omega), ht]
    by_cases h2 : j < 256 * n + 256
    · rw [if_pos ⟨by omega, h2⟩, List.getElem?_append_left (by omega)]
    · rw [if_neg (by omega), List.getElem?_append_right (by omega), List.getElem?_drop, hb]
      congr 1
      omega
set_option maxRecDepth 100000 in
theorem pg_setP (img : List UInt8) (np n : Nat) (b : List UInt8) (hl : img.length = 256 * np) (hb : b.length = 256) (hn : n < np) (m : Nat) (hm : m < np) : pgD (setP img n b) m = if m = n then b else pgD img m := by
  apply List.ext_getElem?
  intro i
  rcases Nat.lt_or_ge i 256 with hi | hi
  · rw [pgD_get? _ _ _ hi, setP_get? _ np _ _ hl hb hn]
    by_cases e : m = n
    · subst e
      rw [if_pos (by omega), if_pos rfl]
      congr 1
      omega
    · rw [if_neg (by omega), if_neg e, pgD_get? _ _ _ hi]
  · rw [List.getElem?_eq_none (by rw [pgD_length _ np m (setP_length _ _ _ _ hl hb hn) hm]; exact hi), List.getElem?_eq_none]
    split
    · omega
    · rw [pgD_length _ np m hl hm]; exact hi

/-- A device. -/
structure Dv where
  img : List UInt8
  sure : List UInt8
  log : List (Nat × List UInt8)
  fuse : Int
  dead : Bool
  ops : Nat
  outs : List UInt8
/-- What befalls the next op: 3: it dies. -/
def Dv.out (d : Dv) : Nat := if d.fuse = 0 then 3 else (d.outs.headD 0).toNat % 3
def Dv.op (d : Dv) : Dv := if d.fuse = 0 then { d with ops := d.ops + 1, dead := true } else { d with ops := d.ops + 1, fuse := if 0 < d.fuse then d.fuse - 1 else d.fuse, outs := d.outs.tail }
def Dv.rdE (d : Dv) : Int := if d.dead = true ∨ d.out = 3 ∨ d.out = 1 then 7 else 0
def Dv.rdD (d : Dv) : Dv := if d.dead = true then d else d.op
def Dv.wrE (d : Dv) : Int := if d.dead = true ∨ d.out ≠ 0 then 7 else 0
def Dv.wrD (d : Dv) (n : Nat) (b : List UInt8) : Dv := if d.dead = true then d else if d.out = 1 then d.op else { d.op with img := setP d.img n b, log := d.log ++ [(n, b)] }
/-- A device whose calls do not fail. -/
def Dv.well (d : Dv) : Prop := d.fuse < 0 ∧ d.dead = false ∧ d.outs = []
theorem Dv.well_out {d : Dv} (h : d.well) : d.out = 0 := by
  unfold Dv.out
  rw [if_neg (by have := h.1; omega), h.2.2]
  rfl
theorem Dv.well_op {d : Dv} (h : d.well) : d.op = { d with ops := d.ops + 1 } := by
  unfold Dv.op
  have h1 := h.1
  rw [if_neg (by omega), if_neg (by omega)]
  cases d
  simp only [Dv.well] at h
  simp [h.2.2]
theorem Dv.well_rd {d : Dv} (h : d.well) : d.rdE = 0 ∧ d.rdD = { d with ops := d.ops + 1 } := by
  have h1 := Dv.well_out h
  have h2 := h.2.1
  unfold Dv.rdE Dv.rdD
  rw [h1, h2, Dv.well_op h]
  simp [h2]
theorem Dv.well_wr {d : Dv} (h : d.well) (n : Nat) (b : List UInt8) : d.wrE = 0 ∧ d.wrD n b = { d with ops := d.ops + 1, img := setP d.img n b, log := d.log ++ [(n, b)] } := by
  have h1 := Dv.well_out h
  have h2 := h.2.1
  unfold Dv.wrE Dv.wrD
  rw [h1, h2, Dv.well_op h]
  simp [h2]

/-- A page that is here. -/
structure Fr where
  pg : Nat
  pins : Nat
  dirty : Bool
  b : List UInt8
/-- Frames over a device; the one used longest ago stands first. -/
structure Po where
  d : Dv
  l : List Fr
def at? (l : List Fr) (n : Nat) : Option Fr := l.find? fun f => f.pg == n
def off (l : List Fr) (n : Nat) : List Fr := l.filter fun f => f.pg != n
def victim (l : List Fr) : Option Fr := l.find? fun f => f.pins == 0
/-- One leaves: 0: it did; 6: there is none; 7: its page could not be written. -/
def Po.oneE (p : Po) : Int := match victim p.l with
  | none => 6
  | some f => if f.dirty = true then p.d.wrE else 0
def Po.oneP (p : Po) : Po := match victim p.l with
  | none => p
  | some f => if f.dirty = true then ⟨p.d.wrD f.pg f.b, if p.d.wrE = 0 then off p.l f.pg else p.l⟩ else ⟨p.d, off p.l f.pg⟩
/-- A frame is free. -/
def Po.takeE (N : Nat) (p : Po) : Int := if p.l.length < N then 0 else p.oneE
def Po.takeP (N : Nat) (p : Po) : Po := if p.l.length < N then p else p.oneP
def Po.pinE (N np : Nat) (p : Po) (n : Int) : Int :=
  if n < 0 ∨ (np : Int) ≤ n then 1 else match at? p.l n.toNat with
  | some _ => 0
  | none => if p.takeE N = 0 then (p.takeP N).d.rdE else p.takeE N
def Po.pinP (N np : Nat) (p : Po) (n : Int) : Po :=
  if n < 0 ∨ (np : Int) ≤ n then p else match at? p.l n.toNat with
  | some f => ⟨p.d, off p.l n.toNat ++ [{ f with pins := f.pins + 1 }]⟩
  | none => if p.takeE N = 0 then (if (p.takeP N).d.rdE = 0 then ⟨(p.takeP N).d.rdD, (p.takeP N).l ++ [⟨n.toNat, 1, false, pgD (p.takeP N).d.img n.toNat⟩]⟩ else ⟨(p.takeP N).d.rdD, (p.takeP N).l⟩) else p.takeP N
def Po.pinB (N np : Nat) (p : Po) (n : Int) : List UInt8 :=
  if n < 0 ∨ (np : Int) ≤ n then [] else match at? p.l n.toNat with
  | some f => f.b
  | none => if p.takeE N = 0 ∧ (p.takeP N).d.rdE = 0 then pgD (p.takeP N).d.img n.toNat else []
def pins? (l : List Fr) (n : Int) : Nat := if n < 0 then 0 else match at? l n.toNat with
  | some f => f.pins
  | none => 0
def Po.unE (p : Po) (n : Int) : Int := if 0 < pins? p.l n then 0 else 10
def Po.unP (p : Po) (n : Int) : Po := if 0 < pins? p.l n then ⟨p.d, p.l.map fun f => if f.pg = n.toNat then { f with pins := f.pins - 1 } else f⟩ else p
def Po.putE (N np : Nat) (p : Po) (n : Int) (b : List UInt8) : Int :=
  if n < 0 ∨ (np : Int) ≤ n ∨ b.length ≠ 256 then 1 else match at? p.l n.toNat with
  | some _ => 0
  | none => p.takeE N
def Po.putP (N np : Nat) (p : Po) (n : Int) (b : List UInt8) : Po :=
  if n < 0 ∨ (np : Int) ≤ n ∨ b.length ≠ 256 then p else match at? p.l n.toNat with
  | some f => ⟨p.d, off p.l n.toNat ++ [⟨n.toNat, f.pins, true, b⟩]⟩
  | none => if p.takeE N = 0 then ⟨(p.takeP N).d, (p.takeP N).l ++ [⟨n.toNat, 0, true, b⟩]⟩ else p.takeP N
def Po.forB (p : Po) (n : Int) : Bool := decide (0 ≤ n) && ((at? p.l n.toNat).any fun f => f.pins == 0)
def Po.forP (p : Po) (n : Int) : Po := if p.forB n = true then ⟨p.d, off p.l n.toNat⟩ else p
/-- The pages that are here, rising. -/
def Po.res (np : Nat) (p : Po) : List Nat := (List.range np).filter fun n => (at? p.l n).isSome
def Po.dirt (np : Nat) (p : Po) : List Nat := (List.range np).filter fun n => (at? p.l n).any (·.dirty)
def clean1 (p : Po) (n : Nat) : Po := match at? p.l n with
  | some f => ⟨p.d.wrD n f.b, if p.d.wrE = 0 then p.l.map fun f => if f.pg = n then { f with dirty := false } else f else p.l⟩
  | none => p
def flushE : List Nat → Po → Int
  | [], _ => 0
  | n :: r, p => if p.d.wrE = 0 then flushE r (clean1 p n) else p.d.wrE
def flushP : List Nat → Po → Po
  | [], p => p
  | n :: r, p => if p.d.wrE = 0 then flushP r (clean1 p n) else clean1 p n
/-- k leave, or as many as may. -/
def evE : Nat → Po → Int
  | 0, _ => 0
  | k + 1, p => if p.oneE = 0 then evE k p.oneP else if p.oneE = 6 then 0 else p.oneE
def evP : Nat → Po → Po
  | 0, p => p
  | k + 1, p => if p.oneE = 0 then evP k p.oneP else p.oneP
def Po.pinned (p : Po) : Nat := (p.l.filter fun f => decide (0 < f.pins)).length
/-- Each page has one frame at most, the pages are the device's. -/
def Po.ok (N np : Nat) (p : Po) : Prop := (p.l.map (·.pg)).Nodup ∧ (∀ f ∈ p.l, f.pg < np ∧ f.b.length = 256) ∧ p.l.length ≤ N ∧ p.d.img.length = 256 * np
end Go.Proofs.YtocepcibcapfbaaGreat.P
