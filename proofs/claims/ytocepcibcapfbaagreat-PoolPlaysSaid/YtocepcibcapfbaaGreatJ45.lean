/- The reference's pool and device (chapters 5, 9): what their memory says; page, find. -/
import Derived.Test.YtocepcibcapfbaaGreatJ15
import Derived.Test.YtocepcibcapfbaaGreatJ18
import Derived.Test.YtocepcibcapfbaaGreatJ21
import Derived.Test.YtocepcibcapfbaaGreatJ23
namespace Go.Proofs.YtocepcibcapfbaaGreat
set_option linter.unusedVariables false
set_option linter.unusedSimpArgs false
set_option linter.unusedSectionVars false
open Go.RowKit
variable [Inhabited AvT]

/-- A frame's four cells. -/
def rfC (q : P.Fr × Value) : List Value := [.int .i64 (q.1.pg : Int), .int .i64 (q.1.pins : Int), .bool q.1.dirty, q.2]
def rfCs (l : List (P.Fr × Value)) : List Value := (l.map rfC).flatten
theorem rfCs_length (l : List (P.Fr × Value)) : (rfCs l).length = l.length * 4 := by
  induction l with
  | nil => rfl
  | cons q l ih =>
    show (rfC q ++ rfCs l).length = _
    rw [List.length_append, ih]
    show 4 + _ = (l.length + 1) * 4
    omega
theorem rfCs_at (l : List (P.Fr × Value)) (i f : Nat) (hi : i < l.length) (hf : f < 4) : (rfCs l)[i * 4 + f]? = (rfC l[i])[f]? := by
  induction l generalizing i with
  | nil => simp at hi
  | cons q l ih =>
    show (rfC q ++ rfCs l)[i * 4 + f]? = _
    have h5 : (rfC q).length = 4 := rfl
    cases i with
    | zero =>
      rw [List.getElem?_append_left (by omega)]
      simp
    | succ i =>
      rw [List.getElem?_append_right (by omega), h5, show (i + 1) * 4 + f - 4 = i * 4 + f by omega, ih i (by simpa using hi)]
      rfl
/-- A row of frames. -/
def RFr (w : World) (a : Option Addr) (l : List (P.Fr × Value)) : Prop := RV w a l.length 4 (rfCs l)
theorem add_offr (p : Addr) (m f : Nat) (hf : 0 < f) : p.add (m + f) = ⟨(p.add m).block, (p.add m).off + f, none⟩ := by
  unfold Addr.add
  rw [if_neg (by omega)]
  split
  · rename_i h; subst h; simp
  · simp; omega
theorem RFr.at {w : World} {a : Option Addr} {l : List (P.Fr × Value)} (h : RFr w a l) (i : Nat) (hi : i < l.length) :
    ∃ p, a = some p ∧ w.cell? (p.add (i * 4)) = some (.int .i64 (l[i].1.pg : Int)) ∧ w.cell? ⟨(p.add (i * 4)).block, (p.add (i * 4)).off + 1, none⟩ = some (.int .i64 (l[i].1.pins : Int)) ∧ w.cell? ⟨(p.add (i * 4)).block, (p.add (i * 4)).off + 2, none⟩ = some (.bool l[i].1.dirty) ∧
      w.cell? ⟨(p.add (i * 4)).block, (p.add (i * 4)).off + 3, none⟩ = some l[i].2 := by
  have hl := rfCs_length l
  obtain ⟨p, rfl, hp⟩ := RV.ptr h (by omega)
  have hc : ∀ f, f < 4 → w.cell? (p.add (i * 4 + f)) = (rfC l[i])[f]? := fun f hf => by
    rw [hp (i * 4 + f) (by omega), ← rfCs_at l i f hi hf, List.getElem?_eq_getElem]
  exact ⟨p, rfl, hc 0 (by omega), by rw [← add_offr _ _ 1 (by omega)]; exact hc 1 (by omega), by rw [← add_offr _ _ 2 (by omega)]; exact hc 2 (by omega), by rw [← add_offr _ _ 3 (by omega)]; exact hc 3 (by omega)⟩
/-- The pool's block: its cells. -/
def rpC (m N : Nat) (vl : Value) : Array Value := #[.pointer (some ⟨m, 0, none⟩), .int .i64 (N : Int), vl]
/-- Where a page stands, in the frames' order. -/
def FdP (l : List P.Fr) (n r : Int) : Prop := (r = -1 ∧ ∀ f ∈ l, (f.pg : Int) ≠ n) ∨ ∃ i, ∃ h : i < l.length, r = (i : Int) ∧ (l[i].pg : Int) = n ∧ ∀ j (hj : j < i), ((l[j]'(by omega)).pg : Int) ≠ n
set_option maxRecDepth 100000 in
set_option maxHeartbeats 3200000 in
theorem rfind_any (qb m N : Nat) (a : Option Addr) (cp : Nat) (l : List (P.Fr × Value)) (n : Int) (hn : inI n) (w : World) (hp : w.heap[qb]? = some (.cells (rpC m N (.slice a l.length cp)) 72 (0, 0))) (hl : RFr w a l) :
    Calls Tryz.prog 47 #[.pointer (some ⟨qb, 0, none⟩), .int .i64 n] w fun e w' => ∃ r, e = .returned (.int .i64 r) ∧ FdP (l.map Prod.fst) n r ∧ Below w.heap.size w w' := by
  have hcells := cell_blk hp
  have c2 : w.cell? ⟨qb, 2, none⟩ = some (.slice a l.length cp) := hcells 2
  have hqb := lt_of_block hp
  have HL := Lib.hid hl
  have HM := Lib.hid hl.2.1
  have HC := Lib.hid c2
  obtain ⟨L, hL⟩ : ∃ L, L = l.length := ⟨_, rfl⟩
  rw [← hL] at HC HM c2
  have HLL := Lib.hid hL
  have hLm : (L : Int) ≤ 9223372036854775807 := by have := HM.out; unfold maxLen at this; omega
  clear hcells hp hl c2 hL
  go_enter Tryz.func47, Tryz.ntmps47
  go_wp2
  go_loopw [5] (fun s5 wr => ∃ k : Nat, k ≤ L ∧ s5 = .int .i64 k ∧ (∀ j (hj : j < l.length), j < k → (l[j].1.pg : Int) ≠ n) ∧ Below w.heap.size w wr) (fun s5 _ => L - (intOf s5).toNat)
  case atStart => exact ⟨0, Nat.zero_le _, rfl, fun j _ h => by omega, Below.refl _ _⟩
  case round =>
    obtain ⟨k, hk, rfl, hno, hb⟩ := hrel
    have c2 : wr.cell? ⟨qb, 2, none⟩ = some (.slice a L cp) := (hb.cell (p := ⟨qb, 2, none⟩) hqb).trans HC.out
    by_cases hlt : k < L
    · have i0 : (0 : Int) ≤ (k : Int) := by omega
      have i1 : (k : Int) < (L : Int) := by omega
      have hkl : k < l.length := by rw [← HLL.out]; exact hlt
      obtain ⟨p, rfl, hc0, -⟩ := (show RFr wr a l from RV.below HL.out hb).at k hkl
      obtain ⟨z, hz⟩ : ∃ z, z = (l[k].1.pg : Int) := ⟨_, rfl⟩
      rw [← hz] at hc0
      have HNO := Lib.hid (And.intro hno hz)
      have HB := Lib.hid hb
      clear hno hz hb
      by_cases he : z = n
      · subst he
        have HR := Lib.hid (show FdP (l.map Prod.fst) z (k : Int) from .inr ⟨k, by rw [List.length_map]; exact hkl, rfl, by rw [List.getElem_map]; exact HNO.out.2.symm, fun j hj => by rw [List.getElem_map]; exact HNO.out.1 j (by omega) hj⟩)
        go_wp2
        go_ret
        exact ⟨_, rfl, HR.out, HB.out⟩
      · have HN := Lib.hid (show ∀ j (hj : j < l.length), j < k + 1 → (l[j].1.pg : Int) ≠ n from fun j hj h => by
          by_cases e : j = k
          · subst e
            rw [← HNO.out.2]
            exact he
          · exact HNO.out.1 j hj (by omega))
        go_wp2
        exact ⟨⟨k + 1, by omega, by go_num, HN.out, HB.out⟩, by simp [intOf]; omega⟩
    · have hkL : k = L := by omega
      have HR := Lib.hid (show FdP (l.map Prod.fst) n (-1) from .inl ⟨rfl, fun f hf => by
        obtain ⟨q, hq, rfl⟩ := List.mem_map.1 hf
        obtain ⟨j, hj, rfl⟩ := List.mem_iff_getElem.1 hq
        exact hno j hj (by rw [hkL, HLL.out]; exact hj)⟩)
      have HB := Lib.hid hb
      have hk2 : ¬ (k : Int) < (L : Int) := by omega
      clear hno hb hlt hkL
      go_wp2
      go_ret
      exact ⟨_, rfl, HR.out, HB.out⟩
end Go.Proofs.YtocepcibcapfbaaGreat
/- The reference's device: is there such a page? -/
namespace Go.Proofs.YtocepcibcapfbaaGreat
set_option linter.unusedVariables false
set_option linter.unusedSimpArgs false
set_option linter.unusedSectionVars false
open Go.RowKit
variable [Inhabited AvT]

set_option maxRecDepth 100000 in
theorem rpage_any (mb np : Nat) (an : Option Addr) (cn : Nat) (n : Int) (hn : inI n) (hnp : np ≤ 4096) (w : World) (h1 : w.cell? ⟨mb, 1, none⟩ = some (.slice an np cn)) :
    Calls Tryz.prog 46 #[.pointer (some ⟨mb, 0, none⟩), .int .i64 n] w fun e w' => e = .returned (.bool (decide (0 ≤ n ∧ n < (np : Int)))) ∧ Below w.heap.size w w' := by
  by_cases h0 : 0 ≤ n
  · by_cases h2 : n < (np : Int)
    · have HD := Lib.hid (show decide (0 ≤ n ∧ n < (np : Int)) = true from decide_eq_true ⟨h0, h2⟩)
      rw [HD.out]
      go_enter Tryz.func46, Tryz.ntmps46
      go_wp2
      go_ret
      exact ⟨rfl, Below.refl _ _⟩
    · have HD := Lib.hid (show decide (0 ≤ n ∧ n < (np : Int)) = false from decide_eq_false (fun h => h2 h.2))
      rw [HD.out]
      go_enter Tryz.func46, Tryz.ntmps46
      go_wp2
      go_ret
      exact ⟨rfl, Below.refl _ _⟩
  · have HD := Lib.hid (show decide (0 ≤ n ∧ n < (np : Int)) = false from decide_eq_false (fun h => h0 h.1))
    rw [HD.out]
    have h3 : n < 0 := by omega
    clear h0
    go_enter Tryz.func46, Tryz.ntmps46
    go_wp2
    go_ret
    exact ⟨rfl, Below.refl _ _⟩
end Go.Proofs.YtocepcibcapfbaaGreat
/- The reference's pool: Pinned. -/
namespace Go.Proofs.YtocepcibcapfbaaGreat
set_option linter.unusedVariables false
set_option linter.unusedSimpArgs false
set_option linter.unusedSectionVars false
open Go.RowKit
variable [Inhabited AvT]

/-- How many of the first k frames are pinned. -/
def pnN (l : List (P.Fr × Value)) (k : Nat) : Nat := ((l.take k).filter fun q => decide (0 < q.1.pins)).length
theorem pnN_succ (l : List (P.Fr × Value)) (k : Nat) (h : k < l.length) : pnN l (k + 1) = pnN l k + if 0 < l[k].1.pins then 1 else 0 := by
  unfold pnN
  rw [List.take_succ_eq_append_getElem h, List.filter_append, List.length_append]
  by_cases e : 0 < l[k].1.pins
  · simp [e]
  · simp [e]
theorem pnN_le (l : List (P.Fr × Value)) (k : Nat) : pnN l k ≤ k := by
  unfold pnN
  exact Nat.le_trans (List.length_filter_le _ _) (by simp; omega)
set_option maxRecDepth 100000 in
set_option maxHeartbeats 3200000 in
theorem rpinned_any (qb m N : Nat) (a : Option Addr) (cp : Nat) (l : List (P.Fr × Value)) (w : World) (hp : w.heap[qb]? = some (.cells (rpC m N (.slice a l.length cp)) 72 (0, 0))) (hl : RFr w a l) (hll : l.length ≤ 5000) :
    Calls Tryz.prog 33 #[.pointer (some ⟨qb, 0, none⟩)] w fun e w' => e = .returned (.int .i64 (pnN l l.length : Int)) ∧ Below w.heap.size w w' := by
  have hcells := cell_blk hp
  have c2 : w.cell? ⟨qb, 2, none⟩ = some (.slice a l.length cp) := hcells 2
  have hqb := lt_of_block hp
  have HL := Lib.hid hl
  have HC := Lib.hid c2
  obtain ⟨L, hL⟩ : ∃ L, L = l.length := ⟨_, rfl⟩
  rw [← hL] at HC c2 hll ⊢
  have HLL := Lib.hid hL
  clear hcells hp hl c2 hL
  go_enter Tryz.func33, Tryz.ntmps33
  go_wp2
  go_loopw [3, 4] (fun s3 s4 wr => ∃ k : Nat, k ≤ L ∧ s4 = .int .i64 k ∧ s3 = .int .i64 (pnN l k : Int) ∧ Below w.heap.size w wr) (fun _ s4 _ => L - (intOf s4).toNat)
  case atStart => exact ⟨0, Nat.zero_le _, rfl, by simp [pnN], Below.refl _ _⟩
  case round =>
    obtain ⟨k, hk, rfl, rfl, hb⟩ := hrel
    have c2 : wr.cell? ⟨qb, 2, none⟩ = some (.slice a L cp) := (hb.cell (p := ⟨qb, 2, none⟩) hqb).trans HC.out
    by_cases hlt : k < L
    · have i0 : (0 : Int) ≤ (k : Int) := by omega
      have i1 : (k : Int) < (L : Int) := by omega
      have hkl : k < l.length := by rw [← HLL.out]; exact hlt
      obtain ⟨p, rfl, -, hc1, -⟩ := (show RFr wr a l from RV.below HL.out hb).at k hkl
      have hs := pnN_succ l k hkl
      have hle := pnN_le l k
      generalize l[k].1.pins = z at hc1 hs
      obtain ⟨A, hA⟩ : ∃ A, A = pnN l k := ⟨_, rfl⟩
      rw [← hA] at hs hle ⊢
      have hA5 : (A : Int) ≤ 5000 := by omega
      have HB := Lib.hid hb
      by_cases hz : 0 < z
      · have hz2 : (0 : Int) < (z : Int) := by omega
        rw [if_pos hz] at hs
        have HS := Lib.hid hs
        clear hs hb hA
        go_wp2
        exact ⟨⟨k + 1, by omega, by go_num, by rw [HS.out]; go_num, HB.out⟩, by simp [intOf]; omega⟩
      · obtain rfl : z = 0 := by omega
        rw [if_neg hz] at hs
        have HS := Lib.hid hs
        clear hs hb hA hz
        go_wp2
        exact ⟨⟨k + 1, by omega, by go_num, by rw [HS.out]; rfl, HB.out⟩, by simp [intOf]; omega⟩
    · obtain rfl : k = L := by omega
      have HB := Lib.hid hb
      clear hb
      go_wp2
      go_ret
      exact ⟨rfl, HB.out⟩
end Go.Proofs.YtocepcibcapfbaaGreat
/- The reference's device in memory; op. -/
namespace Go.Proofs.YtocepcibcapfbaaGreat
set_option linter.unusedVariables false
set_option linter.unusedSimpArgs false
set_option linter.unusedSectionVars false
open Go.RowKit
variable [Inhabited AvT]

def rdC (vs : Value) (gn np cn : Nat) (vw vo : Value) (fz : Int) (ops : Nat) (dead : Bool) : Array Value := #[vs, .slice (some ⟨gn, 0, none⟩) np cn, vw, vo, .int .i64 fz, .int .i64 (ops : Int), .bool dead]
/-- The row of outcomes: in a block that nothing else lies in. -/
def OutV (B : Nat) (w : World) (ao : Option Addr) (no co : Nat) (l : List UInt8) : Prop :=
  Rd w ao no l ∧ (no ≤ co ∧ co ≤ maxLen) ∧ (0 < co → ∃ g off, ∃ C : Array Value, ao = some ⟨g, off, none⟩ ∧ av g ∧ B ≤ g ∧ w.heap[g]? = some (.cells C 5 (0, 0)) ∧ off + co ≤ C.size)
/-- The kinds that the reference's device turns. -/
def rfT (t : Option TypeId) : Prop := t = some 58 ∨ t = some 38 ∨ t = some 98
/-- Kinds that are none of the reference's. -/
def NoRf (T : Option TypeId → Prop) : Prop := ¬ T (some 58) ∧ ¬ T (some 38) ∧ ¬ T (some 98) ∧ ¬ T (some 5)
structure RdS (B : Nat) (w : World) (m np : Nat) (x : P.Dv) (vs : Value) (gn cn : Nat) (vw : Value) (ao : Option Addr) (no co ns : Nat) (ls : List Value) (Cn : Array Value) : Prop where
  dev : w.heap[m]? = some (.cells (rdC vs gn np cn vw (.slice ao no co) x.fuse x.ops x.dead) 58 (0, 0))
  low : B ≤ m ∧ B ≤ gn
  now : w.heap[gn]? = some (.cells Cn 38 (0, 0))
  cap : np ≤ Cn.size ∧ np ≤ cn ∧ cn ≤ maxLen
  pgs : ∀ i, i < np → ∃ a c, Cn[i]? = some (.slice a 256 c) ∧ RB w a 256 (P.pgD x.img i)
  since : OV w B 98 2 vw ns ls
  out : OutV B w ao no co x.outs
  big : (ns ≤ x.log.length ∧ x.log.length ≤ x.ops) ∧ (8 ≤ np ∧ np ≤ 4096) ∧ x.ops ≤ 1000000 ∧ (-1 ≤ x.fuse ∧ x.fuse ≤ 9223372036854775807) ∧ x.img.length = 256 * np
  avs : ∀ k, av k → k < w.heap.size
/-- Block m is the reference's device x. -/
def RfD (B : Nat) (w : World) (m np : Nat) (x : P.Dv) : Prop := ∃ vs gn cn vw ao no co ns ls Cn, RdS B w m np x vs gn cn vw ao no co ns ls Cn
variable {B : Nat} {w : World} {m np : Nat} {x : P.Dv} {vs : Value} {gn cn : Nat} {vw : Value} {ao : Option Addr} {no co ns : Nat} {ls : List Value} {Cn : Array Value}
theorem OutV.ty {C : Nat} {T : Option TypeId → Prop} {w' : World} {l : List UInt8} (h : OutV B w ao no co l) (hw : Ty C T w w') (hT : ¬ T (some 5)) : OutV B w' ao no co l := by
  obtain ⟨h1, h2, h3⟩ := h
  refine ⟨h1.ty hw (fun h0 p e => ?_), h2, fun h0 => ?_⟩
  · obtain ⟨g, off, D, e', -, -, hg, -⟩ := h3 (by omega)
    rw [e] at e'
    cases e'
    exact .inr ⟨_, tagA_cells hg, hT⟩
  · obtain ⟨g, off, D, e', k1, k2, hg, k3⟩ := h3 h0
    exact ⟨g, off, D, e', k1, k2, hw.cells hg (.inr hT), k3⟩
theorem RdS.ty {C : Nat} {T : Option TypeId → Prop} {w' : World} (h : RdS B w m np x vs gn cn vw ao no co ns ls Cn) (hw : Ty C T w w') (hT : NoRf T) : RdS B w' m np x vs gn cn vw ao no co ns ls Cn :=
  ⟨hw.cells h.dev (.inr hT.1), h.low, hw.cells h.now (.inr hT.2.1), h.cap, fun i hi => by
    obtain ⟨a, c, k1, k2⟩ := h.pgs i hi
    exact ⟨a, c, k1, k2.ty hw hT.2.2.2⟩, h.since.ty hw (fun _ _ => .inr hT.2.2.1), h.out.ty hw hT.2.2.2, h.big, fun k hk => Nat.lt_of_lt_of_le (h.avs k hk) hw.size⟩
theorem RfD.ty {C : Nat} {T : Option TypeId → Prop} {w' : World} (h : RfD B w m np x) (hw : Ty C T w w') (hT : NoRf T) : RfD B w' m np x := by
  obtain ⟨vs, gn, cn, vw, ao, no, co, ns, ls, Cn, h⟩ := h
  exact ⟨vs, gn, cn, vw, ao, no, co, ns, ls, Cn, h.ty hw hT⟩
theorem RdS.below {w' : World} (h : RdS B w m np x vs gn cn vw ao no co ns ls Cn) (hb : Below w.heap.size w w') : RdS B w' m np x vs gn cn vw ao no co ns ls Cn := h.ty (Ty.of_below (B := 0) (T := fun _ => False) hb) ⟨id, id, id, id⟩
theorem RfD.below {w' : World} (h : RfD B w m np x) (hb : Below w.heap.size w w') : RfD B w' m np x := h.ty (Ty.of_below (B := 0) (T := fun _ => False) hb) ⟨id, id, id, id⟩
theorem RfD.avs (h : RfD B w m np x) : ∀ k, av k → k < w.heap.size := by
  obtain ⟨vs, gn, cn, vw, ao, no, co, ns, ls, Cn, h⟩ := h
  exact h.avs
theorem RfD.lt (h : RfD B w m np x) : m < w.heap.size ∧ B ≤ m := by
  obtain ⟨vs, gn, cn, vw, ao, no, co, ns, ls, Cn, h⟩ := h
  exact ⟨lt_of_block h.dev, h.low.1⟩
/-- The device's own block was turned. -/
theorem RdS.re {w' : World} {x' : P.Dv} (h : RdS B w m np x vs gn cn vw ao no co ns ls Cn) (hw : Chg (fun j => j = m) w w') {vw' : Value} {ao' : Option Addr} {no' co' ns' : Nat} {ls' : List Value}
    (hd : w'.heap[m]? = some (.cells (rdC vs gn np cn vw' (.slice ao' no' co') x'.fuse x'.ops x'.dead) 58 (0, 0))) (himg : x'.img = x.img) (ho : OutV B w ao' no' co' x'.outs) (hs : OV w B 98 2 vw' ns' ls')
    (hb : (ns' ≤ x'.log.length ∧ x'.log.length ≤ x'.ops) ∧ x'.ops ≤ 1000000 ∧ (-1 ≤ x'.fuse ∧ x'.fuse ≤ 9223372036854775807)) : RdS B w' m np x' vs gn cn vw' ao' no' co' ns' ls' Cn ∧ Ty B rfT w w' := by
  have ht0 : Ty B (fun t => t = some 58) w w' := (Ty.of_chg hw h.dev hd).mono h.low.1 (fun _ h => h)
  exact ⟨⟨hd, h.low, ht0.cells h.now (.inr (by decide)), h.cap, fun i hi => by
    obtain ⟨a, c, k1, k2⟩ := h.pgs i hi
    rw [himg]
    exact ⟨a, c, k1, k2.ty ht0 (by decide)⟩, hs.ty ht0 (fun _ _ => .inr (by decide)), ho.ty ht0 (by decide), ⟨hb.1, h.big.2.1, hb.2.1, hb.2.2, by rw [himg]; exact h.big.2.2.2.2⟩, fun k hk => Nat.lt_of_lt_of_le (h.avs k hk) ht0.size⟩, ht0.mono (Nat.le_refl _) (fun _ h => .inl h)⟩
theorem op_fz (x : P.Dv) (h : -1 ≤ x.fuse ∧ x.fuse ≤ 9223372036854775807) : -1 ≤ x.op.fuse ∧ x.op.fuse ≤ 9223372036854775807 := by
  unfold P.Dv.op
  split
  · exact h
  · show -1 ≤ (if 0 < x.fuse then x.fuse - 1 else x.fuse) ∧ (if 0 < x.fuse then x.fuse - 1 else x.fuse) ≤ 9223372036854775807
    split <;> omega
/-- What op tells of the outcome. -/
def opO (x : P.Dv) : Int := if x.fuse = 0 then 0 else (x.out : Int)
set_option maxRecDepth 100000 in
set_option maxHeartbeats 3200000 in
theorem rop_any (h : RfD B w m np x) (hop : x.ops < 1000000) : Calls Tryz.prog 76 #[.pointer (some ⟨m, 0, none⟩)] w fun e w' =>
    e = .returned (.tuple #[.bool (decide (x.fuse = 0)), .int .i64 (opO x)]) ∧ RfD B w' m np x.op ∧ Ty B rfT w w' := by
  obtain ⟨vs, gn, cn, vw, ao, no, co, ns, ls, Cn, h⟩ := h
  have hfz := op_fz x h.big.2.2.2.1
  have hi := op_img x
  have hbig := h.big
  have hd := h.dev
  have hout := h.out
  obtain ⟨F, hF⟩ : ∃ F, F = x.fuse := ⟨_, rfl⟩
  obtain ⟨O, hO⟩ : ∃ O, O = x.ops := ⟨_, rfl⟩
  obtain ⟨D, hD⟩ : ∃ D, D = x.dead := ⟨_, rfl⟩
  have g := cell_blk hd
  have f := free_blk hd
  rw [← hF, ← hO, ← hD] at g
  unfold rdC at g
  have o1 : (O : Int) < 1000000 := by omega
  have f1 : -1 ≤ F := by omega
  have f2 : F ≤ 9223372036854775807 := by omega
  have H := Lib.hid h
  have HD := Lib.hid hd
  have HBIG := Lib.hid hbig
  have HFZ := Lib.hid hfz
  have HI := Lib.hid hi
  have HOP := Lib.hid hop
  have HOUT := Lib.hid hout
  have EF := Lib.hid hF
  have EO := Lib.hid hO
  have ED := Lib.hid hD
  by_cases h0 : F = 0
  · subst h0
    have hop0 : x.op = { x with ops := x.ops + 1, dead := true } := by unfold P.Dv.op; rw [if_pos hF.symm]
    have hoo : opO x = 0 := by unfold opO; rw [if_pos hF.symm]
    have hdd : decide (x.fuse = 0) = true := decide_eq_true hF.symm
    rw [hoo, hdd]
    have HO0 := Lib.hid hop0
    clear h hfz hi hbig hd hout hF hO hD hop0 hoo hdd hop
    go_enter Tryz.func76, Tryz.ntmps76
    go_wp2
    go_ret2
    generalize hwx : (World.setCell _ _ _ : World) = wx
    have hc : Chg (fun j => j = m) w wx := by rw [← hwx]; exact (setCell_chg _ _ _ _).trans (setCell_chg _ _ _ _)
    have hr := H.out.re (x' := x.op) hc (vw' := vw) (ao' := ao) (no' := no) (co' := co) (ns' := ns) (ls' := ls) (by rw [← hwx, blk_setCell (blk_setCell HD.out 5 _), HO0.out, EO.out]; rfl) HI.out.1 (by rw [HO0.out]; exact HOUT.out) H.out.since ⟨by rw [HI.out.2.1]; have := HI.out.2.2; have := HBIG.out.1; exact ⟨by omega, by omega⟩, by have := HI.out.2.2; have := HOP.out; omega, HFZ.out⟩
    exact ⟨rfl, ⟨_, _, _, _, _, _, _, _, _, _, hr.1⟩, hr.2⟩
  have hf0 : x.fuse ≠ 0 := by rw [← hF]; exact h0
  have hop1 : x.op = { x with ops := x.ops + 1, fuse := if 0 < x.fuse then x.fuse - 1 else x.fuse, outs := x.outs.tail } := by unfold P.Dv.op; rw [if_neg hf0]
  have hoo : opO x = ((x.outs.headD 0).toNat % 3 : Nat) := by unfold opO P.Dv.out; rw [if_neg hf0, if_neg hf0]
  have hdd : decide (x.fuse = 0) = false := decide_eq_false hf0
  rw [hoo, hdd]
  have HO1 := Lib.hid hop1
  obtain ⟨hrd, hcap, hal⟩ := hout
  have hopl : x.op.ops = O + 1 := by rw [hi.2.2, hO]
  have HOPL := Lib.hid hopl
  have hne : (F == 0) = false := by simpa using h0
  have HNE := Lib.hid hne
  clear hfz hi hbig hF hO hD hop1 hoo hdd hop hf0 hopl hne
  rcases hl : x.outs with _ | ⟨c, l⟩
  · have hno : no = 0 := by have := hrd.1; rw [hl] at this; simpa using this.symm
    subst hno
    have HLL := Lib.hid hl
    clear h hd hrd hcap hal hl
    by_cases hp : 0 < F
    · have HFU := Lib.hid (show x.op.fuse = F - 1 by rw [HO1.out, EF.out]; show (if 0 < x.fuse then x.fuse - 1 else x.fuse) = _; rw [if_pos (by rw [← EF.out]; exact hp)])
      have z1 : (F == 0) = false := by simpa using h0
      have z2 : decide (0 < F) = true := decide_eq_true hp
      have z3 : wrap64 (F - 1) = F - 1 := by simp [wrap64]; omega
      clear h0 f1 f2 hp
      go_enter Tryz.func76, Tryz.ntmps76
      go_wp2
      go_ret2
      generalize hwx : (World.setCell _ _ _ : World) = wx
      have hc : Chg (fun j => j = m) w wx := by rw [← hwx]; exact (setCell_chg _ _ _ _).trans (setCell_chg _ _ _ _)
      have hr := H.out.re (x' := x.op) hc (vw' := vw) (ao' := ao) (no' := 0) (co' := co) (ns' := ns) (ls' := ls) (by rw [← hwx, blk_setCell (blk_setCell HD.out 5 _), HFU.out, HOPL.out, HO1.out]; rfl) HI.out.1 (by rw [HO1.out]; show OutV _ _ _ _ _ x.outs.tail; rw [HLL.out]; have := HOUT.out; rw [HLL.out] at this; exact this) H.out.since ⟨by rw [HI.out.2.1]; have := HI.out.2.2; have := HBIG.out.1; exact ⟨by omega, by omega⟩, by have := HOPL.out; omega, HFZ.out⟩
      exact ⟨rfl, ⟨_, _, _, _, _, _, _, _, _, _, hr.1⟩, hr.2⟩
    · have HFU := Lib.hid (show x.op.fuse = F by rw [HO1.out, EF.out]; show (if 0 < x.fuse then x.fuse - 1 else x.fuse) = _; rw [if_neg (by rw [← EF.out]; exact hp)])
      obtain rfl : F = -1 := by omega
      clear hp h0 f1 f2
      go_enter Tryz.func76, Tryz.ntmps76
      go_wp2
      go_ret2
      generalize hwx : (World.setCell _ _ _ : World) = wx
      have hc : Chg (fun j => j = m) w wx := by rw [← hwx]; exact (setCell_chg _ _ _ _)
      have hr := H.out.re (x' := x.op) hc (vw' := vw) (ao' := ao) (no' := 0) (co' := co) (ns' := ns) (ls' := ls) (by rw [← hwx, blk_setCell HD.out 5 _, HFU.out, HOPL.out, HO1.out, EF.out]; rfl) HI.out.1 (by rw [HO1.out]; show OutV _ _ _ _ _ x.outs.tail; rw [HLL.out]; have := HOUT.out; rw [HLL.out] at this; exact this) H.out.since ⟨by rw [HI.out.2.1]; have := HI.out.2.2; have := HBIG.out.1; exact ⟨by omega, by omega⟩, by have := HOPL.out; omega, HFZ.out⟩
      exact ⟨rfl, ⟨_, _, _, _, _, _, _, _, _, _, hr.1⟩, hr.2⟩
  · obtain ⟨g0, off, C0, rfl, hav, hBg, hC0, hC1⟩ := hal (by have := hrd.1; rw [hl] at this; simp at this; omega)
    have hlen := hrd.1
    rw [hl] at hlen
    simp at hlen
    have hc0 : w.cell? ⟨g0, off, none⟩ = some (.int .u8 (c.toNat : Int)) := by
      obtain ⟨p, e, hp⟩ := hrd.at 0 (by rw [hl]; simp)
      cases e
      rw [Addr.add_lit, Nat.add_zero] at hp
      rw [hp]
      simp [hl, bv]
    have hgm : g0 ≠ m := fun e => by rw [e, HD.out] at hC0; simp at hC0
    have hout' : no ≠ 1 → OutV B w (some ⟨g0, off + 1, none⟩) (no - 1) (co - 1) l := fun hn => ⟨⟨by omega, by have := hrd.2.1; omega, fun i hi => ⟨_, rfl, by
      obtain ⟨p, e, hp⟩ := hrd.at (i + 1) (by rw [hl]; simpa using hi)
      cases e
      rw [Addr.add_lit] at hp ⊢
      rw [show off + 1 + i = off + (i + 1) by omega, hp]
      simp [hl]⟩⟩, by omega, fun _ => ⟨g0, off + 1, C0, rfl, hav, hBg, hC0, by omega⟩⟩
    have hout1 : ∀ q k, k ≤ co → no = 1 → OutV B w (some ⟨g0, q, none⟩) 0 k l → OutV B w (some ⟨g0, q, none⟩) (no - 1) k l := fun q k _ e h => by rw [e]; exact h
    have hnil : no = 1 → l = [] := fun e => List.eq_nil_of_length_eq_zero (by omega)
    have HLL := Lib.hid hl
    have HOL := Lib.hid (And.intro hout' (And.intro hnil (And.intro hav (And.intro hBg (And.intro hC0 (And.intro hC1 hcap))))))
    have HGM := Lib.hid hgm
    have gm1 : ¬ g0 = m := hgm
    have gm2 : ¬ m = g0 := fun e => hgm e.symm
    have hoe : (((c :: l).headD 0).toNat % 3 : Nat) = c.toNat % 3 := rfl
    have HOE := Lib.hid hoe
    have n1 : (1 : Int) ≤ (no : Int) := by omega
    have n2 : (no : Int) ≤ (co : Int) := by omega
    have n3 : (0 : Int) < (no : Int) := by omega
    have n4 : (1 : Int) ≤ (co : Int) := by omega
    have n5 : 0 < no := by omega
    have n6 : 0 < co := by omega
    rw [hoe]
    clear h hd hrd hal hl hlen hout' hout1 hnil hav hBg hC0 hC1 hgm hoe
    by_cases hp : 0 < F
    · have HFU := Lib.hid (show x.op.fuse = F - 1 by rw [HO1.out, EF.out]; show (if 0 < x.fuse then x.fuse - 1 else x.fuse) = _; rw [if_pos (by rw [← EF.out]; exact hp)])
      have z1 : (F == 0) = false := by simpa using h0
      have z2 : decide (0 < F) = true := decide_eq_true hp
      have z3 : wrap64 (F - 1) = F - 1 := by simp [wrap64]; omega
      clear h0 f1 f2 hp
      by_cases hco : co = 1
      · subst hco
        obtain rfl : no = 1 := by omega
        clear hcap n1 n2 n3 n4 n5 n6
        go_enter Tryz.func76, Tryz.ntmps76
        go_wp2
        go_ret2
        generalize hwx : (World.setCell _ _ _ : World) = wx
        have hc : Chg (fun j => j = m) w wx := by rw [← hwx]; exact (((setCell_chg _ _ _ _).trans (setCell_chg _ _ _ _)).trans (setCell_chg _ _ _ _))
        have ho1 : OutV B w (some ⟨g0, off, none⟩) 0 0 l := ⟨by rw [HOL.out.2.1 trivial]; exact Rd.nil _ _, ⟨Nat.le_refl _, by unfold maxLen; omega⟩, fun h => by omega⟩
        have hr := H.out.re (x' := x.op) hc (vw' := vw) (ao' := (some ⟨g0, off, none⟩)) (no' := 0) (co' := 0) (ns' := ns) (ls' := ls) (by rw [← hwx, blk_setCell (blk_setCell (blk_setCell HD.out _ _) _ _) _ _, HFU.out, HOPL.out, HO1.out]; rfl) HI.out.1 (by rw [HO1.out]; show OutV _ _ _ _ _ x.outs.tail; rw [HLL.out]; exact ho1) H.out.since ⟨by rw [HI.out.2.1]; have := HI.out.2.2; have := HBIG.out.1; exact ⟨by omega, by omega⟩, by have := HI.out.2.2; have := HOP.out; omega, HFZ.out⟩
        exact ⟨rfl, ⟨_, _, _, _, _, _, _, _, _, _, hr.1⟩, hr.2⟩
      · have z4 : wrap64 ((O : Int) + 1) = (O : Int) + 1 := by simp [wrap64]; omega
        have u4 : co ≠ 1 := hco
        clear hcap n6 hco o1
        go_enter Tryz.func76, Tryz.ntmps76
        go_wp2
        go_ret2
        generalize hwx : (World.setCell _ _ _ : World) = wx
        have hc : Chg (fun j => j = m) w wx := by rw [← hwx]; exact (((setCell_chg _ _ _ _).trans (setCell_chg _ _ _ _)).trans (setCell_chg _ _ _ _))
        have ho1 : OutV B w (some ⟨g0, off + 1, none⟩) (no - 1) (co - 1) l := by
          by_cases hn1 : no = 1
          · have hl0 := HOL.out.2.1 hn1
            subst hn1
            rw [hl0]
            exact ⟨Rd.nil _ _, ⟨Nat.zero_le _, by have := HOL.out.2.2.2.2.2.2.2; omega⟩, fun _ => ⟨g0, off + 1, C0, rfl, HOL.out.2.2.1, HOL.out.2.2.2.1, HOL.out.2.2.2.2.1, by have := HOL.out.2.2.2.2.2.1; omega⟩⟩
          · exact HOL.out.1 hn1
        have hr := H.out.re (x' := x.op) hc (vw' := vw) (ao' := (some ⟨g0, off + 1, none⟩)) (no' := (no - 1)) (co' := (co - 1)) (ns' := ns) (ls' := ls) (by rw [← hwx, blk_setCell (blk_setCell (blk_setCell HD.out _ _) _ _) _ _, HFU.out, HOPL.out, HO1.out]; rfl) HI.out.1 (by rw [HO1.out]; show OutV _ _ _ _ _ x.outs.tail; rw [HLL.out]; exact ho1) H.out.since ⟨by rw [HI.out.2.1]; have := HI.out.2.2; have := HBIG.out.1; exact ⟨by omega, by omega⟩, by have := HI.out.2.2; have := HOP.out; omega, HFZ.out⟩
        exact ⟨rfl, ⟨_, _, _, _, _, _, _, _, _, _, hr.1⟩, hr.2⟩
    · have HFU := Lib.hid (show x.op.fuse = F by rw [HO1.out, EF.out]; show (if 0 < x.fuse then x.fuse - 1 else x.fuse) = _; rw [if_neg (by rw [← EF.out]; exact hp)])
      obtain rfl : F = -1 := by omega
      clear hp h0 f1 f2
      by_cases hco : co = 1
      · subst hco
        obtain rfl : no = 1 := by omega
        clear hcap n1 n2 n3 n4 n5 n6
        go_enter Tryz.func76, Tryz.ntmps76
        go_wp2
        go_ret2
        generalize hwx : (World.setCell _ _ _ : World) = wx
        have hc : Chg (fun j => j = m) w wx := by rw [← hwx]; exact ((setCell_chg _ _ _ _).trans (setCell_chg _ _ _ _))
        have ho1 : OutV B w (some ⟨g0, off, none⟩) 0 0 l := ⟨by rw [HOL.out.2.1 trivial]; exact Rd.nil _ _, ⟨Nat.le_refl _, by unfold maxLen; omega⟩, fun h => by omega⟩
        have hr := H.out.re (x' := x.op) hc (vw' := vw) (ao' := (some ⟨g0, off, none⟩)) (no' := 0) (co' := 0) (ns' := ns) (ls' := ls) (by rw [← hwx, blk_setCell (blk_setCell HD.out _ _) _ _, HFU.out, HOPL.out, HO1.out, ← EF.out]; rfl) HI.out.1 (by rw [HO1.out]; show OutV _ _ _ _ _ x.outs.tail; rw [HLL.out]; exact ho1) H.out.since ⟨by rw [HI.out.2.1]; have := HI.out.2.2; have := HBIG.out.1; exact ⟨by omega, by omega⟩, by have := HI.out.2.2; have := HOP.out; omega, HFZ.out⟩
        exact ⟨rfl, ⟨_, _, _, _, _, _, _, _, _, _, hr.1⟩, hr.2⟩
      · have z4 : wrap64 ((O : Int) + 1) = (O : Int) + 1 := by simp [wrap64]; omega
        have u4 : co ≠ 1 := hco
        clear hcap n6 hco o1
        go_enter Tryz.func76, Tryz.ntmps76
        go_wp2
        go_ret2
        generalize hwx : (World.setCell _ _ _ : World) = wx
        have hc : Chg (fun j => j = m) w wx := by rw [← hwx]; exact ((setCell_chg _ _ _ _).trans (setCell_chg _ _ _ _))
        have ho1 : OutV B w (some ⟨g0, off + 1, none⟩) (no - 1) (co - 1) l := by
          by_cases hn1 : no = 1
          · have hl0 := HOL.out.2.1 hn1
            subst hn1
            rw [hl0]
            exact ⟨Rd.nil _ _, ⟨Nat.zero_le _, by have := HOL.out.2.2.2.2.2.2.2; omega⟩, fun _ => ⟨g0, off + 1, C0, rfl, HOL.out.2.2.1, HOL.out.2.2.2.1, HOL.out.2.2.2.2.1, by have := HOL.out.2.2.2.2.2.1; omega⟩⟩
          · exact HOL.out.1 hn1
        have hr := H.out.re (x' := x.op) hc (vw' := vw) (ao' := (some ⟨g0, off + 1, none⟩)) (no' := (no - 1)) (co' := (co - 1)) (ns' := ns) (ls' := ls) (by rw [← hwx, blk_setCell (blk_setCell HD.out _ _) _ _, HFU.out, HOPL.out, HO1.out, ← EF.out]; rfl) HI.out.1 (by rw [HO1.out]; show OutV _ _ _ _ _ x.outs.tail; rw [HLL.out]; exact ho1) H.out.since ⟨by rw [HI.out.2.1]; have := HI.out.2.2; have := HBIG.out.1; exact ⟨by omega, by omega⟩, by have := HI.out.2.2; have := HOP.out; omega, HFZ.out⟩
        exact ⟨rfl, ⟨_, _, _, _, _, _, _, _, _, _, hr.1⟩, hr.2⟩
end Go.Proofs.YtocepcibcapfbaaGreat
/- The reference's device: Read. -/
namespace Go.Proofs.YtocepcibcapfbaaGreat
set_option linter.unusedVariables false
set_option linter.unusedSimpArgs false
set_option linter.unusedSectionVars false
open Go.RowKit
variable [Inhabited AvT]
variable {B : Nat} {w : World} {m np : Nat} {x : P.Dv} {vs : Value} {gn cn : Nat} {vw : Value} {ao : Option Addr} {no co ns : Nat} {ls : List Value} {Cn : Array Value}

/-- What op tells: four ways. -/
theorem opO_cases (x : P.Dv) : (x.fuse = 0 ∧ x.out = 3 ∧ decide (x.fuse = 0) = true ∧ opO x = 0) ∨ (x.fuse ≠ 0 ∧ decide (x.fuse = 0) = false ∧ ((x.out = 0 ∧ opO x = 0) ∨ (x.out = 1 ∧ opO x = 1) ∨ (x.out = 2 ∧ opO x = 2))) := by
  by_cases h : x.fuse = 0
  · exact .inl ⟨h, by unfold P.Dv.out; rw [if_pos h], decide_eq_true h, by unfold opO; rw [if_pos h]⟩
  · have ho : x.out < 3 := by unfold P.Dv.out; rw [if_neg h]; exact Nat.mod_lt _ (by omega)
    have e : opO x = (x.out : Int) := by unfold opO; rw [if_neg h]
    exact .inr ⟨h, decide_eq_false h, by omega⟩
/-- A page that there is: where it is read. -/
theorem RdS.page (h : RdS B w m np x vs gn cn vw ao no co ns ls Cn) (k : Nat) (hk : k < np) : ∃ a c, w.cell? ⟨gn, k, none⟩ = some (.slice a 256 c) ∧ RB w a 256 (P.pgD x.img k) := by
  obtain ⟨a, c, h1, h2⟩ := h.pgs k hk
  exact ⟨a, c, by rw [cell_blk h.now, h1], h2⟩
/-- How Read ends. -/
def RdR (B m np : Nat) (x : P.Dv) (n : Int) (w : World) (e : Ending) (w' : World) : Prop :=
  (¬ (0 ≤ n ∧ n < (np : Int)) ∧ e = .returned (.tuple #[.slice none 0 0, .int .i64 1]) ∧ Below w.heap.size w w') ∨
  ((0 ≤ n ∧ n < (np : Int)) ∧ RfD B w' m np x.rdD ∧ Ty B rfT w w' ∧ ∃ a l c, e = .returned (.tuple #[.slice a l c, .int .i64 x.rdE]) ∧ (x.rdE = 7 → a = none ∧ l = 0 ∧ c = 0) ∧ (x.rdE = 0 → l = 256 ∧ RB w' a 256 (P.pgD x.img n.toNat)))
set_option maxRecDepth 100000 in
set_option maxHeartbeats 3200000 in
theorem rread_any (h : RfD B w m np x) (n : Int) (hn : inI n) (hop : x.ops < 1000000) : Calls Tryz.prog 49 #[.pointer (some ⟨m, 0, none⟩), .int .i64 n] w (RdR B m np x n w) := by
  have h00 := h
  obtain ⟨vs, gn, cn, vw, ao, no, co, ns, ls, Cn, h⟩ := h
  have g := cell_blk h.dev
  unfold rdC at g
  have g1 : w.cell? ⟨m, 1, none⟩ = some (.slice (some ⟨gn, 0, none⟩) np cn) := g 1
  have g6 : w.cell? ⟨m, 6, none⟩ = some (.bool x.dead) := g 6
  have hnp := h.big.2.1
  have HPA := Lib.hid (rpage_any m np _ cn n hn hnp.2 w g1)
  have HML := Lib.hid h00.lt.1
  have HG6 := Lib.hid g6
  obtain ⟨D, hD⟩ : ∃ D, D = x.dead := ⟨_, rfl⟩
  rw [← hD] at HG6
  have HDD := Lib.hid hD
  have HOP := Lib.hid (rop_any h00 hop)
  have H := Lib.hid h00
  have HOPS := Lib.hid hop
  have hopb : ∀ w', Below w.heap.size w w' → Calls Tryz.prog 76 #[.pointer (some ⟨m, 0, none⟩)] w' fun e w2 => e = .returned (.tuple #[.bool (decide (x.fuse = 0)), .int .i64 (opO x)]) ∧ RfD B w2 m np x.op ∧ Ty B rfT w' w2 := fun w' hb => rop_any (h00.below hb) hop
  have HOPB := Lib.hid hopb
  clear h h00 g g1 g6 hnp hD hop hopb
  by_cases hr : 0 ≤ n ∧ n < (np : Int)
  rotate_left
  · have HF := Lib.hid hr
    have hd : decide (0 ≤ n ∧ n < (np : Int)) = false := decide_eq_false hr
    rw [hd] at HPA
    clear hr hd
    go_enter Tryz.func49, Tryz.ntmps49
    go_wp2_with fail
    refine HPA.out.mono ?_
    rintro e w1 ⟨rfl, hb⟩
    have HB := Lib.hid hb
    clear hb
    go_wp2
    go_ret2
    exact .inl ⟨HF.out, rfl, HB.out⟩
  have hd : decide (0 ≤ n ∧ n < (np : Int)) = true := decide_eq_true hr
  rw [hd] at HPA
  have HR := Lib.hid hr
  clear hd hr
  rcases D with _ | _
  rotate_left
  · go_enter Tryz.func49, Tryz.ntmps49
    go_wp2_with fail
    refine HPA.out.mono ?_
    rintro e w1 ⟨rfl, hb⟩
    have HB := Lib.hid hb
    have g6 := (hb.cell (p := ⟨m, 6, none⟩) HML.out).trans HG6.out
    clear hb
    go_wp2
    go_ret2
    have hE : x.rdE = 7 ∧ x.rdD = x := by unfold P.Dv.rdE P.Dv.rdD; rw [if_pos (.inl HDD.out.symm), if_pos HDD.out.symm]; exact ⟨rfl, rfl⟩
    refine .inr ⟨HR.out, by rw [hE.2]; exact H.out.below HB.out, Ty.of_below HB.out, none, 0, 0, by rw [hE.1]; rfl, fun _ => ⟨rfl, rfl, rfl⟩, fun e => by omega⟩
  have hD2 : x.rdD = x.op := by unfold P.Dv.rdD; rw [if_neg (by rw [← HDD.out]; simp)]
  have HD2 := Lib.hid hD2
  clear hD2
  have hbad : ∀ (b : Bool) (o : Int), x.rdE = 7 → decide (x.fuse = 0) = b → opO x = o → (b = true ∧ o = 0 ∨ b = false ∧ o = 1) → Calls Tryz.prog 49 #[.pointer (some ⟨m, 0, none⟩), .int .i64 n] w (RdR B m np x n w) := by
    intro b o he hb ho hbo
    have HE := Lib.hid he
    rw [hb, ho] at HOPB
    clear he hb ho
    rcases hbo with ⟨rfl, rfl⟩ | ⟨rfl, rfl⟩
    all_goals
      go_enter Tryz.func49, Tryz.ntmps49
      go_wp2_with fail
      refine HPA.out.mono ?_
      rintro e w1 ⟨rfl, hb⟩
      have HB := Lib.hid hb
      have g6 := (hb.cell (p := ⟨m, 6, none⟩) HML.out).trans HG6.out
      have HO := Lib.hid (HOPB.out w1 hb)
      clear hb
      go_wp2_with fail
      refine HO.out.mono ?_
      rintro e w2 ⟨rfl, hD, hT⟩
      have HF := Lib.hid (And.intro hD hT)
      clear hD hT g6
      go_wp2
      go_ret2
      exact .inr ⟨HR.out, by rw [HD2.out]; exact HF.out.1, (Ty.of_below HB.out).trans HF.out.2, none, 0, 0, by rw [HE.out]; rfl, fun _ => ⟨rfl, rfl, rfl⟩, fun e => by have := HE.out; omega⟩
  have hgood : ∀ (o : Int), x.rdE = 0 → decide (x.fuse = 0) = false → opO x = o → (o = 0 ∨ o = 2) → Calls Tryz.prog 49 #[.pointer (some ⟨m, 0, none⟩), .int .i64 n] w (RdR B m np x n w) := by
    intro o he hb ho hbo
    have HE := Lib.hid he
    rw [hb, ho] at HOPB
    clear he hb ho hbad
    obtain ⟨k, rfl⟩ : ∃ k : Nat, n = (k : Int) := ⟨n.toNat, by have := HR.out; omega⟩
    have HKN := Lib.hid (show k < np by have := HR.out; omega)
    have i0 : (0 : Int) ≤ (k : Int) := by omega
    have i1 : (k : Int) < (np : Int) := by have := HKN.out; omega
    rcases hbo with rfl | rfl
    all_goals
      go_enter Tryz.func49, Tryz.ntmps49
      go_wp2_with fail
      refine HPA.out.mono ?_
      rintro e w1 ⟨rfl, hb⟩
      have HB := Lib.hid hb
      have g6 := (hb.cell (p := ⟨m, 6, none⟩) HML.out).trans HG6.out
      have HO := Lib.hid (HOPB.out w1 hb)
      clear hb
      go_wp2_with fail
      refine HO.out.mono ?_
      rintro e w2 ⟨rfl, hD, hT⟩
      have HF := Lib.hid (And.intro hD hT)
      obtain ⟨vs, gn, cn, vw, ao, no, co, ns, ls, Cn, hS⟩ := hD
      obtain ⟨a, c, hc, hrb⟩ := hS.page k HKN.out
      have g := cell_blk hS.dev
      unfold rdC at g
      have g1 : w2.cell? ⟨m, 1, none⟩ = some (.slice (some ⟨gn, 0, none⟩) np cn) := g 1
      have HRB := Lib.hid hrb
      have HCP := Lib.hid (copy_any a 256 c _ w2 hrb.1 (by omega))
      have HAV := Lib.hid hS.avs
      clear hT g6 hS hrb g
      go_wp2_with fail
      refine HCP.out.mono ?_
      rintro e w3 ⟨v3, rfl, ho3, hb3⟩
      obtain ⟨a3, c3, hv3, -⟩ := ho3.form
      have hl3 : (P.pgD x.op.img k).length = 256 := HRB.out.1.1
      rw [hl3] at hv3
      subst hv3
      have hrb3 := OB.rb ho3 HAV.out
      have HR3 := Lib.hid hrb3
      have HB3 := Lib.hid hb3
      clear ho3 hb3 hl3 hrb3 g1 hc
      go_wp2
      go_ret2
      have himg := (op_img x).1
      exact .inr ⟨HR.out, by rw [HD2.out]; exact HF.out.1.below HB3.out, ((Ty.of_below HB.out).trans HF.out.2).trans (Ty.of_below HB3.out), a3, 256, c3, by rw [HE.out]; rfl, fun e => by have := HE.out; omega, fun _ => ⟨rfl, by rw [← himg, Int.toNat_natCast]; exact HR3.out⟩⟩
  have hdf : ¬ x.dead = true := by rw [← HDD.out]; simp
  rcases opO_cases x with ⟨h1, h2, h3, h4⟩ | ⟨h1, h3, ⟨h2, h4⟩ | ⟨h2, h4⟩ | ⟨h2, h4⟩⟩
  · exact hbad _ _ (by unfold P.Dv.rdE; rw [if_pos (.inr (.inl h2))]) h3 h4 (.inl ⟨rfl, rfl⟩)
  · exact hgood _ (by unfold P.Dv.rdE; rw [if_neg (by rintro (h | h | h); exact hdf h; all_goals omega)]) h3 h4 (.inl rfl)
  · exact hbad _ _ (by unfold P.Dv.rdE; rw [if_pos (.inr (.inr h2))]) h3 h4 (.inr ⟨rfl, rfl⟩)
  · exact hgood _ (by unfold P.Dv.rdE; rw [if_neg (by rintro (h | h | h); exact hdf h; all_goals omega)]) h3 h4 (.inr rfl)
end Go.Proofs.YtocepcibcapfbaaGreat
/- Calls at their place in a region that draws its order. -/
namespace Go.Proofs.YtocepcibcapfbaaGreat
set_option linter.unusedVariables false
set_option linter.unusedSimpArgs false
set_option linter.unusedSectionVars false
open Go.RowKit

/-- A call of a function that is known. -/
theorem x_call {P : Program} {o : Oper} {ρ : Operand → Value} {w : World} {x : Operand} {xs : Array Operand} {ts : Array TypeId} (ho : o.op = .call { callee := .value x, args := xs, argTypes := ts }) (f : FuncId) (hx : ρ x = .func (.func f) #[] #[]) (args : Array Value) (ha : xs.map ρ = args)
    (hen : (callFunc f args).run P w = .ok (.enter f args) w) : (execOp ρ o).run P w = .ok (.enter f args) w := by
  unfold execOp
  simp only [ho, resolve, hx, ha, Deferred.ofValue]
  simp [invoke, hen, Result.andThen]
theorem x_call1 {P : Program} {o : Oper} {ρ : Operand → Value} {w : World} {x y1 : Operand} {ts : Array TypeId} (ho : o.op = .call { callee := .value x, args := #[y1], argTypes := ts }) (f : FuncId) (hx : ρ x = .func (.func f) #[] #[]) (u1 : Value) (h1 : ρ y1 = u1)
    (hen : (callFunc f #[u1]).run P w = .ok (.enter f #[u1]) w) : (execOp ρ o).run P w = .ok (.enter f #[u1]) w :=
  x_call ho f hx _ (by simp only [List.map_toArray, List.map_cons, List.map_nil, h1]) hen
theorem x_call2 {P : Program} {o : Oper} {ρ : Operand → Value} {w : World} {x y1 y2 : Operand} {ts : Array TypeId} (ho : o.op = .call { callee := .value x, args := #[y1, y2], argTypes := ts }) (f : FuncId) (hx : ρ x = .func (.func f) #[] #[]) (u1 u2 : Value) (h1 : ρ y1 = u1) (h2 : ρ y2 = u2)
    (hen : (callFunc f #[u1, u2]).run P w = .ok (.enter f #[u1, u2]) w) : (execOp ρ o).run P w = .ok (.enter f #[u1, u2]) w :=
  x_call ho f hx _ (by simp only [List.map_toArray, List.map_cons, List.map_nil, h1, h2]) hen
/-- At the call: its contract. -/
theorem step_call {P : Program} {ops : Array Oper} {o : Oper} {a : Act} {w : World} {K : Act → World → Prop} {Q : Exit → Act → World → Prop} {E : Prop} (hgd : o.guard = none) (f : FuncId) (args : Array Value) (hr : (execOp a.eval o).run P w = .ok (.enter f args) w) (R : Value → World → Prop)
    (hc : Calls P f args w fun e w' => ∃ v, e = .returned v ∧ R v w') (h : ∀ v w', R v w' → K (a.put o.dst v) w') : if Region.wanted o (yielded ops a.tmps) = true then Oper.wp P o a w K Q else E := by
  rw [if_pos (show Region.wanted o (yielded ops a.tmps) = true by simp [Region.wanted, hgd])]
  unfold Oper.wp
  rw [hr, Oper.upon_enter]
  refine hc.mono ?_
  rintro e w' ⟨v, rfl, hv⟩
  exact h v w' hv
/-- append, in a plain region: the kinds stay. -/
theorem wpList_appT {ts t : TypeId} {s by_ : Nat} (T : SlT ts t s by_) (w : World) {ops : Array Oper} {rest : List Oper} {o : Oper} {a : Act} {Q : Exit → Act → World → Prop} (hgd : o.guard = none) (so x : Operand)
    (ho : o.op = .call { callee := .builtin .append, args := #[so, x], argTypes := #[ts, ts] })
    (B : Nat) (v : Value) (n : Nat) (l : List Value) (hs : a.eval so = v) (hown : OV w B t s v n l) (A : Option Addr) (m c : Nat) (k : List Value) (hx : a.eval x = .slice A m c) (hr : RV w A m s k) (h1 : ∀ u ∈ k, u.oneCell' = true)
    (hb : (n + m) * by_ ≤ 140737488355328) (hm : n + m ≤ 140737488355328) (hB : B ≤ w.heap.size)
    (h : ∀ v' w', OV w' B t s v' (n + m) (l ++ k) → w.grownBy w' v.ownBlock → (v'.ownBlock = v.ownBlock ∨ v'.ownBlock = some w.heap.size) → Ty B (fun u => u = some t) w w' → wpList Tryz.prog ops Q rest (a.put o.dst v') w') :
    wpList Tryz.prog ops Q (o :: rest) a w := by
  refine wpList_plain hgd fun K hK => ?_
  obtain ⟨v', w', e1, e2, e3, e4, e5⟩ := run_appT T w o.type B v n l hown A m c k hr h1 hb hm hB
  unfold Oper.wp execOp
  simp only [ho, resolve, invoke, builtin, Sem.run_bind, Sem.run_pure, Result.andThen_ok, List.map_toArray, List.map_cons, List.map_nil, hs, hx, e1]
  exact hK _ _ (h v' w' e2 e3 e4 e5)
/-- In a region that draws its order: a call alone comes up. -/
theorem any_call {P : Program} {ops : Array Oper} {Q : Exit → Act → World → Prop} {md : Region.Mode} {fuel : Nat} {listed : Array Bool} {a : Act} {w : World} (i : Nat) {o : Oper} (hi : ops[i]? = some o) (hr : Region.ready md ops listed = [i]) (hw : Region.wanted o (yielded ops a.tmps) = true) (f : FuncId) (args : Array Value)
    (hrun : (execOp a.eval o).run P w = .ok (.enter f args) w) (R : Value → World → Prop) (hc : Calls P f args w fun e w' => ∃ v, e = .returned v ∧ R v w') (h : ∀ v w', R v w' → wpAny P md ops Q fuel (listed.setIfInBounds i true) (a.put o.dst v) w') : wpAny P md ops Q (fuel + 1) listed a w :=
  wpAny_ready hr (by simp) (AllReady.cons hi (fun K' hK => by
    rw [if_pos hw]
    unfold Oper.wp
    rw [hrun, Oper.upon_enter]
    refine hc.mono ?_
    rintro e w' ⟨v, rfl, hv⟩
    exact hK _ _ (h v w' hv)) AllReady.nil)
/-- A call and a load come up: the one or the other first. -/
theorem any_call_load {P : Program} {ops : Array Oper} {Q : Exit → Act → World → Prop} {md : Region.Mode} {fuel : Nat} {listed : Array Bool} {a : Act} {w : World} (i j : Nat) {o o' : Oper} (hi : ops[i]? = some o) (hj : ops[j]? = some o') (hr : Region.ready md ops listed = [i, j]) (hr1 : Region.ready md ops (listed.setIfInBounds i true) = [j]) (hr2 : Region.ready md ops (listed.setIfInBounds j true) = [i]) (hne : i ≠ j)
    (hw : Region.wanted o (yielded ops a.tmps) = true) (hw' : Region.wanted o' (yielded ops a.tmps) = true) (u : Value) (hw1 : ∀ v, Region.wanted o' (yielded ops (a.put o.dst v).tmps) = true) (hw2 : Region.wanted o (yielded ops (a.put o'.dst u).tmps) = true) (f : FuncId) (args : Array Value) (hrun : (execOp a.eval o).run P w = .ok (.enter f args) w) (hrun2 : (execOp (a.put o'.dst u).eval o).run P w = .ok (.enter f args) w)
    (hl : (execOp a.eval o').run P w = .ok (.value u) w) (R : Value → World → Prop) (hc : Calls P f args w fun e w' => ∃ v, e = .returned v ∧ R v w') (hl2 : ∀ v w', R v w' → (execOp (a.put o.dst v).eval o').run P w' = .ok (.value u) w') (hcm : ∀ v, (a.put o'.dst u).put o.dst v = (a.put o.dst v).put o'.dst u)
    (h : ∀ v w', R v w' → wpAny P md ops Q fuel ((listed.setIfInBounds i true).setIfInBounds j true) ((a.put o.dst v).put o'.dst u) w') : wpAny P md ops Q (fuel + 2) listed a w :=
  wpAny_ready hr (by simp) (AllReady.cons hi (fun K' hK => by
    rw [if_pos hw]
    unfold Oper.wp
    rw [hrun, Oper.upon_enter]
    refine hc.mono ?_
    rintro e w' ⟨v, rfl, hv⟩
    refine hK _ _ (wpAny_ready hr1 (by simp) (AllReady.cons hj (fun K' hK => ?_) AllReady.nil))
    rw [if_pos (hw1 v)]
    unfold Oper.wp
    rw [hl2 v w' hv]
    exact hK _ _ (h v w' hv)) (AllReady.cons hj (fun K' hK => by
    rw [if_pos hw']
    unfold Oper.wp
    rw [hl]
    refine hK _ _ (wpAny_ready hr2 (by simp) (AllReady.cons hi (fun K' hK => ?_) AllReady.nil))
    rw [if_pos hw2]
    unfold Oper.wp
    rw [hrun2, Oper.upon_enter]
    refine hc.mono ?_
    rintro e w' ⟨v, rfl, hv⟩
    refine hK _ _ ?_
    have hs : (listed.setIfInBounds j true).setIfInBounds i true = (listed.setIfInBounds i true).setIfInBounds j true := Array.setIfInBounds_comm _ _ (Ne.symm hne)
    rw [hs, hcm v]
    exact h v w' hv) AllReady.nil))
theorem x_neq_same {P : Program} {o : Oper} {ρ : Operand → Value} {w : World} {t u : TypeId} {x y : Operand} (ho : o.op = .binOp .neq t x y u) (k : IntKind) (z : Int) (hx : ρ x = .int k z) (hy : ρ y = .int k z) : (execOp ρ o).run P w = .ok (.value (.bool false)) w := by
  unfold execOp
  simp [ho, hx, hy, eqGuard, binOp, Op.intCmp, Result.andThen]
theorem act_comm (a : Act) (d e : Nat) (v u : Value) (h : d ≠ e) : (a.put (some e) u).put (some d) v = (a.put (some d) v).put (some e) u := by
  simp only [Act.put]
  congr 1
  exact Array.setIfInBounds_comm _ _ (Ne.symm h)
theorem copy_en [Inhabited AvT] (args : Array Value) (w : World) : (callFunc 51 args).run Tryz.prog w = .ok (.enter 51 args) w := enter_of Tryz.func51 (by kernel_rfl) (by kernel_rfl) args w
end Go.Proofs.YtocepcibcapfbaaGreat
/- The reference's device: Write. -/
namespace Go.Proofs.YtocepcibcapfbaaGreat
set_option linter.unusedVariables false
set_option linter.unusedSimpArgs false
set_option linter.unusedSectionVars false
open Go.RowKit
variable [Inhabited AvT]
variable {B : Nat} {w : World} {m np : Nat} {x : P.Dv} {vs : Value} {gn cn : Nat} {vw : Value} {ao : Option Addr} {no co ns : Nat} {ls : List Value} {Cn : Array Value}

theorem donesT : SlT 56 98 2 32 := ⟨Tryz.underlying56, ⟨.agg #[.int .i64 0, .slice none 0 0], by kernel_rfl, by kernel_rfl⟩, by omega⟩
/-- A page is another one. -/
theorem RdS.set (h : RdS B w m np x vs gn cn vw ao no co ns ls Cn) (k : Nat) (hk : k < np) (b : List UInt8) (a : Option Addr) (c : Nat) (hr : RB w a 256 b) :
    RdS B (w.setCell ⟨gn, k, none⟩ (.slice a 256 c)) m np { x with img := P.setP x.img k b } vs gn cn vw ao no co ns ls (Cn.setIfInBounds k (.slice a 256 c)) ∧ Ty B rfT w (w.setCell ⟨gn, k, none⟩ (.slice a 256 c)) := by
  have hb : b.length = 256 := hr.1.1
  have ht : Ty B (fun t => t = some 38) w (w.setCell ⟨gn, k, none⟩ (.slice a 256 c)) := (Ty.refl _ _ _).setCell _ _ (.inr ⟨h.low.2, _, tagA_cells h.now, rfl⟩)
  refine ⟨⟨ht.cells h.dev (.inr (by decide)), h.low, blk_setCell h.now k _, ⟨by rw [Array.size_setIfInBounds]; exact h.cap.1, h.cap.2⟩, fun i hi => ?_, h.since.ty ht (fun _ _ => .inr (by decide)), h.out.ty ht (by decide), ⟨h.big.1, h.big.2.1, h.big.2.2.1, h.big.2.2.2.1, P.setP_length _ _ _ _ h.big.2.2.2.2 hb hk⟩, fun i hi => Nat.lt_of_lt_of_le (h.avs i hi) ht.size⟩, ht.mono (Nat.le_refl _) (fun _ h => .inr (.inl h))⟩
  by_cases e : i = k
  · subst e
    refine ⟨a, c, by rw [Array.getElem?_setIfInBounds_self_of_lt (by have := h.cap.1; omega)], ?_⟩
    rw [P.pg_setP _ np _ _ h.big.2.2.2.2 hb hk _ hi, if_pos rfl]
    exact hr.ty ht (by decide)
  · obtain ⟨a1, c1, k1, k2⟩ := h.pgs i hi
    refine ⟨a1, c1, by rw [Array.getElem?_setIfInBounds_ne (fun h => e h.symm)]; exact k1, ?_⟩
    rw [P.pg_setP _ np _ _ h.big.2.2.2.2 hb hk _ hi, if_neg e]
    exact k2.ty ht (by decide)
/-- A write is noted. -/
theorem RdS.noted {w5 : World} {v5 : Value} {k : Nat} {b : List UInt8} {ls5 : List Value} (h : RdS B w m np x vs gn cn vw ao no co ns ls Cn) (ho : OV w5 B 98 2 v5 (ns + 1) ls5) (ht : Ty B (fun t => t = some 98) w w5) (hl : x.log.length < x.ops) :
    w5.heap[m]? = some (.cells (rdC vs gn np cn vw (.slice ao no co) x.fuse x.ops x.dead) 58 (0, 0)) ∧ RfD B (w5.setCell ⟨m, 2, none⟩ v5) m np { x with log := x.log ++ [(k, b)] } ∧ Ty B rfT w (w5.setCell ⟨m, 2, none⟩ v5) := by
  have hd := ht.cells h.dev (.inr (by decide))
  have h5 : RdS B w5 m np x vs gn cn v5 ao no co 0 ls5 Cn ∨ True := .inr trivial
  have t2 : Ty B (fun t => t = some 58) w5 (w5.setCell ⟨m, 2, none⟩ v5) := (Ty.refl _ _ _).setCell _ _ (.inr ⟨h.low.1, _, tagA_cells hd, rfl⟩)
  have t12 : Ty B (fun t => t = some 98 ∨ t = some 58) w (w5.setCell ⟨m, 2, none⟩ v5) := (ht.mono (Nat.le_refl _) (fun _ h => .inl h)).trans (t2.mono (Nat.le_refl _) (fun _ h => .inr h))
  refine ⟨hd, ⟨vs, gn, cn, v5, ao, no, co, ns + 1, ls5, Cn, ?_, h.low, t12.cells h.now (.inr (by decide)), h.cap, fun i hi => ?_, ho.ty t2 (fun _ _ => .inr (by decide)), h.out.ty t12 (by decide), ⟨⟨?_, ?_⟩, h.big.2.1, h.big.2.2.1, h.big.2.2.2.1, h.big.2.2.2.2⟩, fun i hi => Nat.lt_of_lt_of_le (h.avs i hi) t12.size⟩, t12.mono (Nat.le_refl _) (fun t h => h.elim (fun h => .inr (.inr h)) .inl)⟩
  · rw [blk_setCell hd]
    rfl
  · obtain ⟨a1, c1, k1, k2⟩ := h.pgs i hi
    exact ⟨a1, c1, k1, k2.ty t12 (by decide)⟩
  · show ns + 1 ≤ (x.log ++ [(k, b)]).length
    have := h.big.1.1
    simp
    omega
  · show (x.log ++ [(k, b)]).length ≤ x.ops
    simp
    omega
def noteC (k : Nat) (a : Option Addr) (c : Nat) : Obj := .cells #[.int .i64 (k : Int), .slice a 256 c] 98
theorem note_one (k : Int) (a : Option Addr) (c : Nat) : ∀ u ∈ [Value.int .i64 k, .slice a 256 c], u.oneCell' = true := by
  intro u hu
  simp at hu
  rcases hu with rfl | rfl <;> rfl
/-- What a write's note wants, and leaves. -/
structure NoteR (B m np k : Nat) (x' : P.Dv) (vw : Value) (ns : Nat) (ls : List Value) (w4 : World) (a5 : Option Addr) (c5 : Nat) (w5 : World) : Prop where
  own : OV (w5.alloc (noteC k a5 c5)) B 98 2 vw ns ls
  src : RV (w5.alloc (noteC k a5 c5)) (some ⟨w5.heap.size, 0, none⟩) 1 2 [.int .i64 (k : Int), .slice a5 256 c5]
  low : B ≤ (w5.alloc (noteC k a5 c5)).heap.size
  note : ∀ v6 w6, OV w6 B 98 2 v6 (ns + 1) (ls ++ [.int .i64 (k : Int), .slice a5 256 c5]) → Ty B (fun t => t = some 98) (w5.alloc (noteC k a5 c5)) w6 →
    w6.cell? ⟨m, 2, none⟩ = some vw ∧ w6.frozen? ⟨m, 2, none⟩ = false ∧ RfD B (w6.setCell ⟨m, 2, none⟩ v6) m np x' ∧ Ty B rfT w4 (w6.setCell ⟨m, 2, none⟩ v6)
theorem NoteR.of {k : Nat} {b : List UInt8} {a5 : Option Addr} {c5 : Nat} {w5 : World} (h : RdS B w m np x vs gn cn vw ao no co ns ls Cn) (hl : x.log.length < x.ops) (hb : Below w.heap.size w w5) : NoteR B m np k { x with log := x.log ++ [(k, b)] } vw ns ls w a5 c5 w5 := by
  have hb2 : Below w.heap.size w (w5.alloc (noteC k a5 c5)) := hb.alloc hb.size _
  have h5 := h.below hb2
  refine ⟨h5.since, RV_lit w5 _ 1 2 _ rfl (by unfold maxLen; omega), by have h1 := h5.low.1; have h2 := lt_of_block h5.dev; omega, fun v6 w6 ho ht => ?_⟩
  obtain ⟨k1, k2, k3⟩ := h5.noted (k := k) (b := b) ho ht hl
  exact ⟨cell_blk k1 2, free_blk k1 2, k2, (Ty.of_below hb2).trans k3⟩
/-- How Write ends. -/
def WdR (B m np : Nat) (x : P.Dv) (n : Int) (b : List UInt8) (w : World) (e : Ending) (w' : World) : Prop :=
  (¬ ((0 ≤ n ∧ n < (np : Int)) ∧ b.length = 256) ∧ e = .returned (.int .i64 1) ∧ Below w.heap.size w w') ∨ (((0 ≤ n ∧ n < (np : Int)) ∧ b.length = 256) ∧ RfD B w' m np (x.wrD n.toNat b) ∧ Ty B rfT w w' ∧ e = .returned (.int .i64 x.wrE))
set_option maxRecDepth 100000 in
set_option maxHeartbeats 3200000 in
theorem rwrite_any (h : RfD B w m np x) (n : Int) (hn : inI n) (a : Option Addr) (len c : Nat) (b : List UInt8) (hr : RB w a len b) (hop : x.ops < 1000000) : Calls Tryz.prog 59 #[.pointer (some ⟨m, 0, none⟩), .int .i64 n, .slice a len c] w (WdR B m np x n b w) := by
  have h00 := h
  obtain ⟨vs, gn, cn, vw, ao, no, co, ns, ls, Cn, h⟩ := h
  have g := cell_blk h.dev
  unfold rdC at g
  have g1 : w.cell? ⟨m, 1, none⟩ = some (.slice (some ⟨gn, 0, none⟩) np cn) := g 1
  have g6 : w.cell? ⟨m, 6, none⟩ = some (.bool x.dead) := g 6
  have hnp := h.big.2.1
  have hlg := h.big.1.2
  have HPA := Lib.hid (rpage_any m np _ cn n hn hnp.2 w g1)
  have HML := Lib.hid h00.lt.1
  have HLG := Lib.hid hlg
  have HG6 := Lib.hid g6
  obtain ⟨D, hD⟩ : ∃ D, D = x.dead := ⟨_, rfl⟩
  rw [← hD] at HG6
  have HDD := Lib.hid hD
  have H := Lib.hid h00
  have HRB := Lib.hid hr
  have hlen : b.length = len := hr.1.1
  have HLEN := Lib.hid hlen
  have hlm : (len : Int) ≤ 9223372036854775807 := by have := hr.1.2.1; unfold maxLen at this; omega
  have HOPS := Lib.hid hop
  have HOPB := Lib.hid (show ∀ w', Below w.heap.size w w' → Calls Tryz.prog 76 #[.pointer (some ⟨m, 0, none⟩)] w' fun e w2 => e = .returned (.tuple #[.bool (decide (x.fuse = 0)), .int .i64 (opO x)]) ∧ RfD B w2 m np x.op ∧ Ty B rfT w' w2 from fun w' hb => rop_any (h00.below hb) hop)
  clear h h00 g g1 g6 hnp hD hop hr hlg
  by_cases hrg : 0 ≤ n ∧ n < (np : Int)
  rotate_left
  · have HF := Lib.hid hrg
    have hd : decide (0 ≤ n ∧ n < (np : Int)) = false := decide_eq_false hrg
    rw [hd] at HPA
    clear hrg hd hlen hlm
    go_enter Tryz.func59, Tryz.ntmps59
    go_wp2_with fail
    refine HPA.out.mono ?_
    rintro e w1 ⟨rfl, hb⟩
    have HB := Lib.hid hb
    clear hb
    go_wp2
    go_ret
    exact .inl ⟨fun h => HF.out h.1, rfl, HB.out⟩
  have hd : decide (0 ≤ n ∧ n < (np : Int)) = true := decide_eq_true hrg
  rw [hd] at HPA
  have HR := Lib.hid hrg
  clear hd hrg
  by_cases h256 : len = 256
  rotate_left
  · have z1 : ((len : Int) != 256) = true := by simp; omega
    have H2 := Lib.hid h256
    clear hlen h256 hlm
    go_enter Tryz.func59, Tryz.ntmps59
    go_wp2_with fail
    refine HPA.out.mono ?_
    rintro e w1 ⟨rfl, hb⟩
    have HB := Lib.hid hb
    clear hb
    go_wp2
    go_ret
    exact .inl ⟨fun h => H2.out (HLEN.out ▸ h.2), rfl, HB.out⟩
  subst h256
  clear hlm hlen
  rcases D with _ | _
  rotate_left
  · go_enter Tryz.func59, Tryz.ntmps59
    go_wp2_with fail
    refine HPA.out.mono ?_
    rintro e w1 ⟨rfl, hb⟩
    have HB := Lib.hid hb
    have g6 := (hb.cell (p := ⟨m, 6, none⟩) HML.out).trans HG6.out
    clear hb
    go_wp2
    go_ret
    have hE := wrE_dead HDD.out.symm n.toNat b
    refine .inr ⟨⟨HR.out, HLEN.out⟩, by rw [hE.2]; exact H.out.below HB.out, Ty.of_below HB.out, by rw [hE.1]; rfl⟩
  obtain ⟨k, rfl⟩ : ∃ k : Nat, n = (k : Int) := ⟨n.toNat, by have := HR.out; omega⟩
  have HKN := Lib.hid (show k < np by have := HR.out; omega)
  have i0 : (0 : Int) ≤ (k : Int) := by omega
  have i1 : (k : Int) < (np : Int) := by have := HKN.out; omega
  have hi := op_img x
  have HI := Lib.hid hi
  clear hi
  have hskip : x.out = 1 → decide (x.fuse = 0) = false → opO x = 1 → x.wrE = 7 → x.wrD k b = x.op → Calls Tryz.prog 59 #[.pointer (some ⟨m, 0, none⟩), .int .i64 (k : Int), .slice a 256 c] w (WdR B m np x (k : Int) b w) := by
    intro h1 hb ho hE hD
    have HE := Lib.hid (And.intro hE hD)
    rw [hb, ho] at HOPB
    clear h1 hb ho hE hD
    go_enter Tryz.func59, Tryz.ntmps59
    go_wp2_with fail
    refine HPA.out.mono ?_
    rintro e w1 ⟨rfl, hb⟩
    have HB := Lib.hid hb
    have g6 := (hb.cell (p := ⟨m, 6, none⟩) HML.out).trans HG6.out
    have HO := Lib.hid (HOPB.out w1 hb)
    clear hb
    go_wp2_with fail
    refine HO.out.mono ?_
    rintro e w2 ⟨rfl, hD, hT⟩
    have HF := Lib.hid (And.intro hD hT)
    clear hD hT g6
    go_wp2
    go_ret
    refine .inr ⟨⟨HR.out, HLEN.out⟩, by rw [Int.toNat_natCast, HE.out.2]; exact HF.out.1, (Ty.of_below HB.out).trans HF.out.2, by rw [HE.out.1]; rfl⟩
  have hdo : ∀ (d : Bool) (o E : Int), decide (x.fuse = 0) = d → opO x = o → (d = true ∧ o = 0 ∧ E = 7 ∨ d = false ∧ o = 0 ∧ E = 0 ∨ d = false ∧ o = 2 ∧ E = 7) → x.wrE = E → x.wrD k b = laidD x.op k b → Calls Tryz.prog 59 #[.pointer (some ⟨m, 0, none⟩), .int .i64 (k : Int), .slice a 256 c] w (WdR B m np x (k : Int) b w) := by
    intro d o E hb ho hdo hE hD
    have HE := Lib.hid (And.intro hE hD)
    rw [hb, ho] at HOPB
    clear hb ho hE hD hskip
    rcases hdo with ⟨rfl, rfl, rfl⟩ | ⟨rfl, rfl, rfl⟩ | ⟨rfl, rfl, rfl⟩
    all_goals
      go_enter Tryz.func59, Tryz.ntmps59
      go_wp2_with fail
      refine HPA.out.mono ?_
      rintro e w1 ⟨rfl, hb⟩
      have HB := Lib.hid hb
      have g6 := (hb.cell (p := ⟨m, 6, none⟩) HML.out).trans HG6.out
      have HO := Lib.hid (HOPB.out w1 hb)
      clear hb
      go_wp2_with fail
      refine HO.out.mono ?_
      rintro e w2 ⟨rfl, hD, hT⟩
      have hR2 := (HRB.out.below HB.out).ty hT (by unfold rfT; decide)
      have HT2 := Lib.hid ((Ty.of_below (B := B) (T := rfT) HB.out).trans hT)
      obtain ⟨vs, gn, cn, vw, ao, no, co, ns, ls, Cn, hS⟩ := hD
      have hm2 := lt_of_block hS.dev
      have g := cell_blk hS.dev
      unfold rdC at g
      have g1 : w2.cell? ⟨m, 1, none⟩ = some (.slice (some ⟨gn, 0, none⟩) np cn) := g 1
      have HKP := Lib.hid (show ∀ w', Below w2.heap.size w2 w' → w'.cell? ⟨m, 1, none⟩ = some (.slice (some ⟨gn, 0, none⟩) np cn) from fun w' h => (h.cell (p := ⟨m, 1, none⟩) hm2).trans g1)
      have HCP := Lib.hid (copy_any a 256 c b w2.drew hR2.1 (by omega))
      have HR2 := Lib.hid hR2
      have HS2 := Lib.hid hS
      clear hT g6 hS g hR2 hm2
      go_wp2
      go_region_held3 (fun w' => w'.cell? ⟨m, 1, none⟩ = some (.slice (some ⟨gn, 0, none⟩) np cn))
        (first
          | (go_keep; done)
          | exact HKP.out _ (below_of_drew HB3.out)
          | exact HK3.out)
        ((go_at_call 51; refine HCP.out.mono ?_; rintro e w3 ⟨v3, rfl, ho3, hb3⟩; have HB3 := Lib.hid hb3; obtain ⟨a3, c3, hv3, -⟩ := ho3.form; rw [HLEN.out] at hv3; subst hv3; have HR3 := Lib.hid (OB.rb ho3 HS2.out.avs); have hS3 := HS2.out.below (below_of_drew hb3); obtain ⟨aw, cw, hcw, -⟩ := hS3.page k HKN.out; have hfw := free_blk hS3.now k; have hset := hS3.set k HKN.out b a3 c3 HR3.out; have HK3 := Lib.hid (show (w3.setCell ⟨gn, k, none⟩ (.slice a3 256 c3)).cell? ⟨m, 1, none⟩ = some (.slice (some ⟨gn, 0, none⟩) np cn) from cell_blk hset.1.dev 1); have HS3 := Lib.hid hset; clear hb3 ho3 hS3 hset))
      have hR3 := (HR2.out.below (below_of_drew HB3.out)).ty HS3.out.2 (by unfold rfT; decide)
      have hT3 := (HT2.out.trans (Ty.of_below (below_of_drew HB3.out))).trans HS3.out.2
      have hS3 := HS3.out.1
      generalize World.setCell w3 ⟨gn, k, none⟩ (.slice a3 256 c3) = w4 at hR3 hT3 hS3 ⊢
      have HR4 := Lib.hid hR3
      have HT4 := Lib.hid hT3
      have HS4 := Lib.hid hS3
      have g := cell_blk hS3.dev
      unfold rdC at g
      have g2 : w4.cell? ⟨m, 2, none⟩ = some vw := g 2
      have HC5 := Lib.hid (show ∀ (v5 : Value) (w5 : World), OB w5 w4.drew.heap.size v5 b → Below w4.drew.heap.size w4.drew w5 → ∃ a5 c5, v5 = .slice a5 256 c5 ∧ (w5.cell? ⟨m, 2, none⟩ = some vw ∧ m < w5.heap.size) ∧ NoteR B m np k (laidD x.op k b) vw ns ls w4 a5 c5 w5 from fun v5 w5 ho5 hb5 => by
        obtain ⟨a5, c5, hv5, -⟩ := ho5.form
        rw [HLEN.out] at hv5
        exact ⟨a5, c5, hv5, ⟨((below_of_drew hb5).cell (p := ⟨m, 2, none⟩) (lt_of_block HS4.out.dev)).trans g2, Nat.lt_of_lt_of_le (lt_of_block HS4.out.dev) (below_of_drew hb5).size⟩, NoteR.of HS4.out (by have h1 := HI.out; have h2 := HLG.out; show x.op.log.length < x.op.ops; rw [h1.2.1, h1.2.2]; omega) (below_of_drew hb5)⟩)
      have HCQ := Lib.hid ((copy_any a 256 c b w4.drew hR3.1 (by omega)))
      have hb1 : (ns + 1) * 32 ≤ 140737488355328 := by have h1 := hS3.big.1; have h2 := hS3.big.2.2.1; omega
      have hb2 : ns + 1 ≤ 140737488355328 := by omega
      clear hR3 hT3 hS3 g g1
      go_wp2
      go_region_law ((first
        | (refine step_call rfl 51 #[.slice a 256 c] (x_call1 rfl 51 rfl (.slice a 256 c) rfl (copy_en _ _)) _ HCQ.out ?_; rintro v5 w5 ⟨ho5, hb5⟩; obtain ⟨a5, c5, rfl, ⟨gq, gq2⟩, hN5⟩ := HC5.out v5 w5 ho5 hb5; have HN5 := Lib.hid hN5; clear hN5 hb5 ho5)
        | (refine step_appT donesT _ rfl _ _ rfl B vw ns ls rfl HN5.out.own (some ⟨w5.heap.size, 0, none⟩) 1 1 [.int .i64 (k : Int), .slice a5 256 c5] rfl HN5.out.src (note_one _ _ _) hb1 hb2 HN5.out.low ?_; intro v6 w6 ho6 hg6 hat6 ht6; obtain ⟨g6, f6, hd6⟩ := HN5.out.note v6 w6 ho6 ht6; obtain ⟨a6, c6, hv6, -⟩ := ho6.form; subst hv6; have HD6 := Lib.hid hd6; clear ho6 hg6 hat6 ht6 hd6)))
      all_goals
        go_wp2
        go_ret
        exact .inr ⟨⟨HR.out, HLEN.out⟩, by rw [Int.toNat_natCast, HE.out.2]; exact HD6.out.1, HT4.out.trans HD6.out.2, by rw [HE.out.1]; rfl⟩
  have hdf : x.dead = false := HDD.out.symm
  rcases opO_cases x with ⟨h1, h2, h3, h4⟩ | ⟨h1, h3, ⟨h2, h4⟩ | ⟨h2, h4⟩ | ⟨h2, h4⟩⟩
  · exact hdo _ _ _ h3 h4 (.inl ⟨rfl, rfl, rfl⟩) (wrE_die hdf h1 k b).1 (wrE_die hdf h1 k b).2
  · have hw := wrE_do hdf h1 k b
    exact hdo _ _ _ h3 h4 (.inr (.inl ⟨rfl, rfl, rfl⟩)) (by rw [hw.2.1, if_pos h2]) (by rw [hw.2.2, if_neg (by omega)])
  · have hw := wrE_do hdf h1 k b
    exact hskip h2 h3 h4 (by rw [hw.2.1, if_neg (by omega)]) (by rw [hw.2.2, if_pos h2])
  · have hw := wrE_do hdf h1 k b
    exact hdo _ _ _ h3 h4 (.inr (.inr ⟨rfl, rfl, rfl⟩)) (by rw [hw.2.1, if_neg (by omega)]) (by rw [hw.2.2, if_neg (by omega)])
end Go.Proofs.YtocepcibcapfbaaGreat
/- The reference's device: Arm, Image. -/
namespace Go.Proofs.YtocepcibcapfbaaGreat
set_option linter.unusedVariables false
set_option linter.unusedSimpArgs false
set_option linter.unusedSectionVars false
open Go.RowKit
variable [Inhabited AvT]
variable {B : Nat} {w : World} {m np : Nat} {x : P.Dv} {vs : Value} {gn cn : Nat} {vw : Value} {ao : Option Addr} {no co ns : Nat} {ls : List Value} {Cn : Array Value}

set_option maxRecDepth 100000 in
set_option maxHeartbeats 1600000 in
theorem rarm_any (h : RfD B w m np x) (n : Int) (hn : inI n) : Calls Tryz.prog 26 #[.pointer (some ⟨m, 0, none⟩), .int .i64 n] w fun e w' => e = .returned (.tuple #[]) ∧ RfD B w' m np (if x.dead = true then x else { x with fuse := max n (-1) }) ∧ Ty B rfT w w' := by
  obtain ⟨X, hX⟩ : ∃ X : P.Dv, X = (if x.dead = true then x else { x with fuse := max n (-1) }) := ⟨_, rfl⟩
  rw [← hX]
  have HX := Lib.hid hX
  clear hX
  have h00 := h
  obtain ⟨vs, gn, cn, vw, ao, no, co, ns, ls, Cn, h⟩ := h
  have g := cell_blk h.dev
  have f := free_blk h.dev
  unfold rdC at g
  have H := Lib.hid h
  have H0 := Lib.hid h00
  have HN := Lib.hid hn
  rcases hd : x.dead with _ | _
  · rw [hd] at g
    have HD := Lib.hid hd
    have hfin : ∀ z, z = max n (-1) → RfD B (w.setCell ⟨m, 4, none⟩ (.int .i64 z)) m np X ∧ Ty B rfT w (w.setCell ⟨m, 4, none⟩ (.int .i64 z)) := fun z hz => by
      subst hz
      rw [HX.out, if_neg (by rw [HD.out]; simp)]
      have hr := H.out.re (x' := { x with fuse := max n (-1) }) (setCell_chg w m 4 (.int .i64 (max n (-1)))) (vw' := vw) (ao' := ao) (no' := no) (co' := co) (ns' := ns) (ls' := ls) (by rw [blk_setCell H.out.dev]; rfl) rfl H.out.out H.out.since ⟨H.out.big.1, H.out.big.2.2.1, by have := HN.out; unfold inI at this; show -1 ≤ max n (-1) ∧ max n (-1) ≤ 9223372036854775807; omega⟩
      exact ⟨⟨_, _, _, _, _, _, _, _, _, _, hr.1⟩, hr.2⟩
    have HF := Lib.hid hfin
    clear hfin h h00 hd hn
    rcases Int.lt_trichotomy n (-1) with hlt | rfl | hgt
    · have z1 : decide (n < -1) = true := decide_eq_true hlt
      have z2 : decide (-1 < n) = false := decide_eq_false (by omega)
      have HF' := Lib.hid (HF.out (-1) (by omega))
      have HLT := Lib.hid hlt
      clear hlt
      go_enter Tryz.func26, Tryz.ntmps26
      go_wp2
      all_goals
        go_end0
        first
          | exact ⟨rfl, HF'.out⟩
          | (exfalso; have h3 := HLT.out; omega)
    · have HF' := Lib.hid (HF.out (-1) (by omega))
      have HLT := Lib.hid trivial
      go_enter Tryz.func26, Tryz.ntmps26
      go_wp2
      all_goals
        go_end0
        first
          | exact ⟨rfl, HF'.out⟩
          | (exfalso; have h3 := HLT.out; omega)
    · have z1 : decide (-1 < n) = true := decide_eq_true hgt
      have z2 : decide (n < -1) = false := decide_eq_false (by omega)
      have HF' := Lib.hid (HF.out n (by omega))
      have HLT := Lib.hid hgt
      clear hgt
      go_enter Tryz.func26, Tryz.ntmps26
      go_wp2
      all_goals
        go_end0
        first
          | exact ⟨rfl, HF'.out⟩
          | (exfalso; have h3 := HLT.out; omega)
  · rw [hd] at g
    have HD := Lib.hid hd
    clear h h00 hd hn
    go_enter Tryz.func26, Tryz.ntmps26
    go_wp2
    go_end0
    exact ⟨rfl, by rw [HX.out, if_pos HD.out]; exact H0.out, Ty.refl _ _ _⟩
theorem img_takeR (img : List UInt8) (np k : Nat) (hl : img.length = 256 * np) (hk : k < np) : img.take (256 * (k + 1)) = img.take (256 * k) ++ P.pgD img k := by
  unfold P.pgD
  rw [Nat.mul_add, Nat.mul_one, List.take_add]
set_option maxRecDepth 100000 in
set_option maxHeartbeats 1600000 in
theorem rimage_any (h : RfD B w m np x) : Calls Tryz.prog 36 #[.pointer (some ⟨m, 0, none⟩)] w fun e w' => ∃ v, e = .returned v ∧ OB w' w.heap.size v x.img ∧ Below w.heap.size w w' := by
  obtain ⟨vs, gn, cn, vw, ao, no, co, ns, ls, Cn, h⟩ := h
  obtain ⟨img, himg⟩ : ∃ img, img = x.img := ⟨_, rfl⟩
  have hl := h.big.2.2.2.2
  have HH := Lib.hid (show ∀ k, k < np → ∃ a c, w.cell? ⟨gn, k, none⟩ = some (.slice a 256 c) ∧ RB w a 256 (P.pgD img k) from fun k hk => by rw [himg]; exact h.page k hk)
  rw [← himg] at hl ⊢
  have HL := Lib.hid hl
  have hm := lt_of_block h.dev
  have hg := lt_of_block h.now
  have HC := Lib.hid (show w.cell? ⟨m, 1, none⟩ = some (.slice (some ⟨gn, 0, none⟩) np cn) from cell_blk h.dev 1)
  have HMG := Lib.hid (And.intro hm hg)
  have hnp : (np : Int) ≤ 4096 := by have := h.big.2.1; omega
  have hnp2 : np ≤ 4096 := by omega
  have g1 := HC.out
  clear h hl himg hm hg
  go_enter Tryz.func36, Tryz.ntmps36
  go_wp2
  clear g1
  go_loopw [3, 4] (fun v i wr => ∃ k : Nat, k ≤ np ∧ i = .int .i64 k ∧ OB wr w.heap.size v (img.take (256 * k)) ∧ Below w.heap.size w wr) (fun _ i _ => np - (intOf i).toNat)
  case atStart => exact ⟨0, by omega, rfl, by simpa using OB.nil _ _, Below.refl _ _⟩
  case round =>
    obtain ⟨k, hk, rfl, hov, hbr⟩ := hrel
    have htl : (img.take (256 * k)).length = 256 * k := by rw [List.length_take, HL.out]; omega
    obtain ⟨av, cv, hv, -⟩ := hov.form
    rw [htl] at hv
    subst hv
    have HTT := Lib.hid htl
    clear htl
    have g1 := (hbr.cell (p := ⟨m, 1, none⟩) HMG.out.1).trans HC.out
    have HOV := Lib.hid hov
    have HBR := Lib.hid hbr
    by_cases hlt : k < np
    · have i1 : (k : Int) < (np : Int) := by omega
      have i0 : (0 : Int) ≤ (k : Int) := by omega
      obtain ⟨ap, cp, hcp, hrp⟩ := HH.out k hlt
      have hcp2 := (hbr.cell (p := ⟨gn, k, none⟩) HMG.out.2).trans hcp
      have HPG := Lib.hid (hrp.1.below hbr)
      have HTL := Lib.hid (show (img.take (256 * k)).length + 256 ≤ 140737488355328 by rw [List.length_take]; omega)
      have HTK := Lib.hid (img_takeR img np k HL.out hlt)
      have HBS := Lib.hid hbr.size
      clear hov hbr hcp hrp
      go_wp2_with (at_builtin; refine wpList_app _ rfl _ _ rfl w.heap.size _ _ rfl HOV.out _ _ _ _ rfl HPG.out HTL.out HBS.out ?_)
      intro v5 w5 ho5 hg5 hat5
      have hb5 := HOV.out.grown HBR.out HBS.out hg5
      rw [← HTK.out] at ho5
      obtain ⟨a5, e5, hv5, -⟩ := ho5.form
      subst hv5
      have HO5 := Lib.hid ho5
      have HB5 := Lib.hid hb5
      clear ho5 hg5 hat5 hb5 g1 hcp2
      go_wp2
      exact ⟨⟨k + 1, by omega, by go_num, HO5.out, HB5.out⟩, by simp [intOf]; omega⟩
    · obtain rfl : k = np := by omega
      have HFIN := Lib.hid (show ∃ v, Ending.returned (Value.slice av (256 * k) cv) = .returned v ∧ OB wr w.heap.size v img ∧ Below w.heap.size w wr from ⟨_, rfl, by
        have h := hov
        have e : img.take (256 * k) = img := List.take_of_length_le (by rw [HL.out]; exact Nat.le_refl _)
        rw [e] at h
        exact h, hbr⟩)
      clear hov hbr
      go_wp2
      go_ret
      exact HFIN.out
end Go.Proofs.YtocepcibcapfbaaGreat
/- The reference's device: New. -/
namespace Go.Proofs.YtocepcibcapfbaaGreat
set_option linter.unusedVariables false
set_option linter.unusedSimpArgs false
set_option linter.unusedSectionVars false
open Go.RowKit
variable [Inhabited AvT]

def zpR : List UInt8 := List.replicate 256 0
def zpC : Array Value := (bvs zpR).toArray
set_option maxRecDepth 100000 in
theorem mk_zp (w : World) : (Instr.makeSlice 38 (.int .i64 256) (.int .i64 256)).run Tryz.prog w = .ok (.slice (some ⟨w.heap.size, 0, none⟩) 256 256) (w.alloc (.cells zpC 5)) := by
  kernel_rfl
theorem slicesT : SlT 55 38 1 24 := ⟨Tryz.underlying55, ⟨.slice none 0 0, by kernel_rfl, by kernel_rfl⟩, by omega⟩
def rnC (vS vN : Value) : Array Value := #[vS, vN, .slice none 0 0, .slice none 0 0, .int .i64 (-1), .int .i64 0, .bool false]
/-- A page of noughts. -/
def PgZ (w : World) (v : Value) : Prop := ∃ a c, v = .slice a 256 c ∧ RB w a 256 zpR
/-- A device that is being made: j pages that last, k pages now. -/
structure NwS (B : Nat) (w : World) (m j k : Nat) (vS vN : Value) (LS LN : List Value) : Prop where
  dev : w.heap[m]? = some (.cells (rnC vS vN) 58 (0, 0))
  low : B ≤ m
  sure : OV w B 38 1 vS j LS
  now : OV w B 38 1 vN k LN
  apart : ∀ b, vS.ownBlock = some b → vN.ownBlock = some b → False
  pgs : ∀ v ∈ LN, PgZ w v
  avs : ∀ i, av i → i < w.heap.size
variable {B : Nat} {w : World} {m j k : Nat} {vS vN : Value} {LS LN : List Value}
theorem PgZ.ty {C : Nat} {T : Option TypeId → Prop} {w' : World} {v : Value} (h : PgZ w v) (hw : Ty C T w w') (hT : ¬ T (some 5)) : PgZ w' v := by
  obtain ⟨a, c, e, h⟩ := h
  exact ⟨a, c, e, h.ty hw hT⟩
theorem NwS.below {w' : World} (h : NwS B w m j k vS vN LS LN) (hb : Below w.heap.size w w') : NwS B w' m j k vS vN LS LN :=
  ⟨(hb.block _ (lt_of_block h.dev)).trans h.dev, h.low, h.sure.below hb, h.now.below hb, h.apart, fun v hv => (h.pgs v hv).ty (Ty.of_below (B := 0) (T := fun _ => False) hb) id, fun i hi => Nat.lt_of_lt_of_le (h.avs i hi) hb.size⟩
theorem zp_rb (w : World) (hav : ∀ i, av i → i < w.heap.size) (w' : World) (hb : Below (w.alloc (.cells zpC 5)).heap.size (w.alloc (.cells zpC 5)) w') : RB w' (some ⟨w.heap.size, 0, none⟩) 256 zpR := by
  have hl : zpR.length = 256 := by unfold zpR; rw [List.length_replicate]
  have h := Rd_lit w 5 zpR (fr := (0, 0)) (by rw [hl]; unfold maxLen; omega)
  rw [hl] at h
  exact RB.below ⟨h, fun _ p e => by cases e; exact ⟨tagA_cells (alloc_new _ _ _ rfl), fun hk => absurd (hav _ hk) (Nat.lt_irrefl _)⟩⟩ hb
/-- One page more that lasts. -/
theorem NwS.addS {w5 : World} {v5 v : Value} (h : NwS B w m j k vS vN LS LN) (ho : OV w5 B 38 1 v5 (j + 1) (LS ++ [v])) (hg : w.grownBy w5 vS.ownBlock) (hat : v5.ownBlock = vS.ownBlock ∨ v5.ownBlock = some w.heap.size) (ht : Ty B (fun t => t = some 38) w w5) :
    (w5.cell? ⟨m, 0, none⟩ = some vS ∧ w5.frozen? ⟨m, 0, none⟩ = false) ∧ NwS B (w5.setCell ⟨m, 0, none⟩ v5) m (j + 1) k v5 vN (LS ++ [v]) LN ∧ Ty B rfT w (w5.setCell ⟨m, 0, none⟩ v5) := by
  have hd := ht.cells h.dev (.inr (by decide))
  have t2 : Ty B (fun t => t = some 58) w5 (w5.setCell ⟨m, 0, none⟩ v5) := (Ty.refl _ _ _).setCell _ _ (.inr ⟨h.low, _, tagA_cells hd, rfl⟩)
  have t12 : Ty B rfT w (w5.setCell ⟨m, 0, none⟩ v5) := (ht.mono (Nat.le_refl _) (fun _ h => .inr (.inl h))).trans (t2.mono (Nat.le_refl _) (fun _ h => .inl h))
  have hN : OV w5 B 38 1 vN k LN := World.ownsRow.kept h.now hg (by
    rcases hv : vN.ownBlock with _ | b
    · exact .inl rfl
    · exact .inr fun e => h.apart b e.symm hv)
  refine ⟨⟨cell_blk hd 0, free_blk hd 0⟩, ⟨by rw [blk_setCell hd]; rfl, h.low, ho.ty t2 (fun _ _ => .inr (by decide)), hN.ty t2 (fun _ _ => .inr (by decide)), fun b h1 h2 => ?_, fun v hv => (h.pgs v hv).ty t12 (by unfold rfT; decide), fun i hi => Nat.lt_of_lt_of_le (h.avs i hi) t12.size⟩, t12⟩
  rcases hat with e | e
  · exact h.apart b (e ▸ h1) h2
  · rw [e] at h1
    have h3 := tagA_lt (OV.tag h.now b h2).1
    have h4 := Option.some.inj h1
    omega
/-- One page more now. -/
theorem NwS.addN {w5 : World} {v5 v : Value} (h : NwS B w m j k vS vN LS LN) (ho : OV w5 B 38 1 v5 (k + 1) (LN ++ [v])) (hg : w.grownBy w5 vN.ownBlock) (hat : v5.ownBlock = vN.ownBlock ∨ v5.ownBlock = some w.heap.size) (ht : Ty B (fun t => t = some 38) w w5) (hz : PgZ w v) :
    (w5.cell? ⟨m, 1, none⟩ = some vN ∧ w5.frozen? ⟨m, 1, none⟩ = false) ∧ NwS B (w5.setCell ⟨m, 1, none⟩ v5) m j (k + 1) vS v5 LS (LN ++ [v]) ∧ Ty B rfT w (w5.setCell ⟨m, 1, none⟩ v5) := by
  have hd := ht.cells h.dev (.inr (by decide))
  have t2 : Ty B (fun t => t = some 58) w5 (w5.setCell ⟨m, 1, none⟩ v5) := (Ty.refl _ _ _).setCell _ _ (.inr ⟨h.low, _, tagA_cells hd, rfl⟩)
  have t12 : Ty B rfT w (w5.setCell ⟨m, 1, none⟩ v5) := (ht.mono (Nat.le_refl _) (fun _ h => .inr (.inl h))).trans (t2.mono (Nat.le_refl _) (fun _ h => .inl h))
  have hN : OV w5 B 38 1 vS j LS := World.ownsRow.kept h.sure hg (by
    rcases hv : vS.ownBlock with _ | b
    · exact .inl rfl
    · exact .inr fun e => h.apart b hv e.symm)
  refine ⟨⟨cell_blk hd 1, free_blk hd 1⟩, ⟨by rw [blk_setCell hd]; rfl, h.low, hN.ty t2 (fun _ _ => .inr (by decide)), ho.ty t2 (fun _ _ => .inr (by decide)), fun b h1 h2 => ?_, fun u hu => ?_, fun i hi => Nat.lt_of_lt_of_le (h.avs i hi) t12.size⟩, t12⟩
  · rcases hat with e | e
    · exact h.apart b h1 (e ▸ h2)
    · rw [e] at h2
      have h3 := tagA_lt (OV.tag h.sure b h1).1
      have h4 := Option.some.inj h2
      omega
  · rcases List.mem_append.1 hu with hu | hu
    · exact (h.pgs u hu).ty t12 (by unfold rfT; decide)
    · rw [List.mem_singleton] at hu
      subst hu
      exact hz.ty t12 (by unfold rfT; decide)
/-- What an append to a row of pages wants, and leaves. -/
def pgO (w : World) : World := (w.alloc (.cells zpC 5)).alloc (.cells #[.slice (some ⟨w.heap.size, 0, none⟩) 256 256] 38)
theorem pgO_below (w : World) : Below w.heap.size w (pgO w) := ((Below.refl _ w).alloc (Nat.le_refl _) _).alloc (by simp) _
theorem pgO_src (w : World) : RV (pgO w) (some ⟨w.heap.size + 1, 0, none⟩) 1 1 [.slice (some ⟨w.heap.size, 0, none⟩) 256 256] := by
  have h := RV_lit (w.alloc (.cells zpC 5)) 38 1 1 [.slice (some ⟨w.heap.size, 0, none⟩) 256 256] (fr := (0, 0)) rfl (by unfold maxLen; omega)
  simpa [pgO] using h
theorem sl_one (v : Value) (h : v.oneCell' = true) : ∀ u ∈ [v], u.oneCell' = true := fun u hu => by rw [List.mem_singleton] at hu; rw [hu]; exact h
theorem pgO_z (w : World) (hav : ∀ i, av i → i < w.heap.size) : PgZ (pgO w) (.slice (some ⟨w.heap.size, 0, none⟩) 256 256) := ⟨_, _, rfl, zp_rb w hav _ ((Below.refl _ _).alloc (Nat.le_refl _) _)⟩
set_option maxRecDepth 100000 in
set_option maxHeartbeats 3200000 in
theorem rnew_any (B np : Nat) (w : World) (hBw : B ≤ w.heap.size) (h8 : 8 ≤ np) (h4 : np ≤ 4096) (hav : ∀ i, av i → i < w.heap.size) :
    Calls Tryz.prog 7 #[.int .i64 (np : Int)] w fun e w' => ∃ m LS vS vN LN, e = .returned (.tuple #[.pointer (some ⟨m, 0, none⟩), .int .i64 0]) ∧ w.heap.size ≤ m ∧ NwS B w' m np np vS vN LS LN ∧ Below w.heap.size w w' := by
  have n8 : (8 : Int) ≤ (np : Int) := by omega
  have n4 : (np : Int) ≤ 4096 := by omega
  have hmk := mk_zp
  have HAV := Lib.hid hav
  have HBW := Lib.hid hBw
  clear hav hBw
  go_enter Tryz.func7, Tryz.ntmps7
  go_wp2
  generalize hw0 : w.alloc _ = w0
  have hb0 : Below w.heap.size w w0 := by rw [← hw0]; exact (Below.refl _ w).alloc (Nat.le_refl _) _
  have h0 : NwS w.heap.size w0 w.heap.size 0 0 (.slice none 0 0) (.slice none 0 0) [] [] := ⟨by rw [← hw0]; exact alloc_new _ _ _ rfl, Nat.le_refl _, OV.nil _ _ _ _, OV.nil _ _ _ _, fun b h => by simp [Value.ownBlock] at h, fun v hv => by simp at hv, fun i hi => Nat.lt_of_lt_of_le (HAV.out i hi) hb0.size⟩
  clear hw0
  go_loopw [5] (fun s5 wr => ∃ k : Nat, k ≤ np ∧ s5 = .int .i64 k ∧ (∃ vS vN LS LN, NwS w.heap.size wr w.heap.size k k vS vN LS LN) ∧ Below w.heap.size w wr) (fun s5 _ => np - (intOf s5).toNat)
  case atStart => exact ⟨0, Nat.zero_le _, rfl, ⟨_, _, _, _, h0⟩, hb0⟩
  case round =>
    clear h0 hb0
    obtain ⟨k, hk, rfl, ⟨vS, vN, LS, LN, hN⟩, hb⟩ := hrel
    by_cases hlt : k < np
    · have i1 : (k : Int) < (np : Int) := by omega
      have hb1 : (k + 1) * 24 ≤ 140737488355328 := by omega
      have hb2 : k + 1 ≤ 140737488355328 := by omega
      have HK := Lib.hid (hN.below (below_of_drew (pgO_below wr.drew)))
      have HSRC := Lib.hid (pgO_src wr.drew)
      have HLO := Lib.hid (show w.heap.size ≤ (pgO wr.drew).heap.size by have h1 := hb.size; have h2 := (pgO_below wr.drew).size; exact Nat.le_trans h1 h2)
      have g0 := cell_blk hN.dev
      unfold rnC at g0
      have hml := lt_of_block hN.dev
      have HB := Lib.hid hb
      clear hN hb
      go_wp2
      go_region_law ((refine step_appT slicesT _ rfl _ _ rfl w.heap.size vS k LS rfl (by exact HK.out.sure) (some ⟨wr.heap.size + 1, 0, none⟩) 1 1 [.slice (some ⟨wr.heap.size, 0, none⟩) 256 256] rfl (by exact HSRC.out) (sl_one _ rfl) hb1 hb2 (by exact HLO.out) ?_; intro v5 w5 ho5 hg5 hat5 ht5; obtain ⟨⟨g5, f5⟩, hN5, hT5⟩ := HK.out.addS ho5 hg5 hat5 ht5; obtain ⟨a5, c5, hv5, -⟩ := ho5.form; subst hv5; have HN5 := Lib.hid hN5; have HT5 := Lib.hid hT5; clear ho5 hg5 hat5 ht5 hN5 hT5))
      all_goals
        generalize hw6 : World.setCell w5 ⟨w.heap.size, 0, none⟩ _ = w6 at HN5 HT5 ⊢
        have hb6 : Below w.heap.size w w6 := by
          have h1 := HB.out
          exact (h1.trans ((below_of_drew (pgO_below wr.drew)).mono h1.size)).trans (HT5.out.base HLO.out)
        have hn := HN5.out
        have HK6 := Lib.hid (hn.below (below_of_drew (pgO_below w6.drew)))
        have HSRC6 := Lib.hid (pgO_src w6.drew)
        have HZ6 := Lib.hid (pgO_z w6.drew hn.avs)
        have HLO6 := Lib.hid (show w.heap.size ≤ (pgO w6.drew).heap.size by have h1 := hb6.size; have h2 := (pgO_below w6.drew).size; exact Nat.le_trans h1 h2)
        have g6 := cell_blk hn.dev
        unfold rnC at g6
        have hml6 := lt_of_block hn.dev
        have HB6 := Lib.hid hb6
        clear hn hb6 hw6 g5 f5 g0 hml
        go_wp2
        go_region_law ((refine step_appT slicesT _ rfl _ _ rfl w.heap.size vN k LN rfl (by exact HK6.out.now) (some ⟨w6.heap.size + 1, 0, none⟩) 1 1 [.slice (some ⟨w6.heap.size, 0, none⟩) 256 256] rfl (by exact HSRC6.out) (sl_one _ rfl) hb1 hb2 (by exact HLO6.out) ?_; intro v7 w7 ho7 hg7 hat7 ht7; obtain ⟨⟨g7, f7⟩, hN7, hT7⟩ := HK6.out.addN ho7 hg7 hat7 ht7 HZ6.out; obtain ⟨a7, c7, hv7, -⟩ := ho7.form; subst hv7; have HN7 := Lib.hid hN7; have HT7 := Lib.hid hT7; clear ho7 hg7 hat7 ht7 hN7 hT7))
        all_goals
          have HB7 := Lib.hid ((HB6.out.trans ((below_of_drew (pgO_below w6.drew)).mono HB6.out.size)).trans (HT7.out.base HLO6.out))
          generalize hw8 : World.setCell w7 ⟨w.heap.size, 1, none⟩ _ = w8 at HN7 HB7 ⊢
          clear hw8 g6 g7 f7 hml6
          go_wp2
          exact ⟨⟨k + 1, by omega, by go_num, ⟨_, _, _, _, HN7.out⟩, HB7.out⟩, by simp [intOf]; omega⟩
    · obtain rfl : k = np := by omega
      have HF := Lib.hid (show ∃ m LS vS vN LN, Ending.returned (Value.tuple #[.pointer (some ⟨w.heap.size, 0, none⟩), .int .i64 0]) = .returned (.tuple #[.pointer (some ⟨m, 0, none⟩), .int .i64 0]) ∧ w.heap.size ≤ m ∧ NwS B wr m k k vS vN LS LN ∧ Below w.heap.size w wr from
        ⟨w.heap.size, LS, vS, vN, LN, rfl, Nat.le_refl _, ⟨hN.dev, HBW.out, hN.sure.mono HBW.out, hN.now.mono HBW.out, hN.apart, hN.pgs, hN.avs⟩, hb⟩)
      clear hN hb
      go_wp2
      go_ret2
      exact HF.out
end Go.Proofs.YtocepcibcapfbaaGreat
/- The reference's pool in memory; out. -/
namespace Go.Proofs.YtocepcibcapfbaaGreat
set_option linter.unusedVariables false
set_option linter.unusedSimpArgs false
set_option linter.unusedSectionVars false
open Go.RowKit
variable [Inhabited AvT]
variable {B : Nat} {w : World} {q m np N : Nat} {x : P.Po} {L : List (P.Fr × Value)} {vl : Value}

theorem framesT : SlT 70 80 4 48 := ⟨Tryz.underlying70, ⟨.agg #[.int .i64 0, .int .i64 0, .bool false, .slice none 0 0], by kernel_rfl, by kernel_rfl⟩, by omega⟩
/-- The kinds that the reference turns. -/
def rpT (t : Option TypeId) : Prop := rfT t ∨ t = some 72 ∨ t = some 80
/-- A frame's bytes. -/
def FrB (w : World) (p : P.Fr × Value) : Prop := ∃ a n c, p.2 = .slice a n c ∧ RB w a n p.1.b
/-- Block q is the pool's: its frames in a row of its own. -/
structure RfL (B : Nat) (w : World) (q m N : Nat) (L : List (P.Fr × Value)) (vl : Value) : Prop where
  pool : w.heap[q]? = some (.cells (rpC m N vl) 72 (0, 0))
  low : B ≤ q
  row : OV w B 80 4 vl L.length (rfCs L)
  pgs : ∀ p ∈ L, FrB w p
/-- Block q is the pool x over device m. -/
def RfP (B : Nat) (w : World) (q m np N : Nat) (x : P.Po) : Prop := RfD B w m np x.d ∧ (∃ L vl, RfL B w q m N L vl ∧ L.map Prod.fst = x.l) ∧ x.ok N np ∧ (8 ≤ N ∧ N ≤ 4096)
/-- Kinds that are none of the reference's, pool and device. -/
def NoRp (T : Option TypeId → Prop) : Prop := NoRf T ∧ ¬ T (some 72) ∧ ¬ T (some 80)
theorem FrB.ty {C : Nat} {T : Option TypeId → Prop} {w' : World} {p : P.Fr × Value} (h : FrB w p) (hw : Ty C T w w') (hT : ¬ T (some 5)) : FrB w' p := by
  obtain ⟨a, n, c, e, h⟩ := h
  exact ⟨a, n, c, e, h.ty hw hT⟩
theorem RfL.ty {C : Nat} {T : Option TypeId → Prop} {w' : World} (h : RfL B w q m N L vl) (hw : Ty C T w w') (h1 : ¬ T (some 72)) (h2 : ¬ T (some 80)) (h3 : ¬ T (some 5)) : RfL B w' q m N L vl :=
  ⟨hw.cells h.pool (.inr h1), h.low, h.row.ty hw (fun _ _ => .inr h2), fun p hp => (h.pgs p hp).ty hw h3⟩
theorem RfL.below {w' : World} (h : RfL B w q m N L vl) (hb : Below w.heap.size w w') : RfL B w' q m N L vl := h.ty (Ty.of_below (B := 0) (T := fun _ => False) hb) id id id
theorem RfL.lt (h : RfL B w q m N L vl) : q < w.heap.size ∧ B ≤ w.heap.size := ⟨lt_of_block h.pool, Nat.le_of_lt (Nat.lt_of_le_of_lt h.low (lt_of_block h.pool))⟩
theorem RfP.ty {C : Nat} {T : Option TypeId → Prop} {w' : World} (h : RfP B w q m np N x) (hw : Ty C T w w') (hT : NoRp T) : RfP B w' q m np N x := by
  obtain ⟨h1, ⟨L, vl, h2, h3⟩, h4⟩ := h
  exact ⟨h1.ty hw hT.1, ⟨L, vl, h2.ty hw hT.2.1 hT.2.2 hT.1.2.2.2, h3⟩, h4⟩
theorem RfP.below {w' : World} (h : RfP B w q m np N x) (hb : Below w.heap.size w w') : RfP B w' q m np N x := h.ty (Ty.of_below (B := 0) (T := fun _ => False) hb) ⟨⟨id, id, id, id⟩, id, id⟩
/-- The device was turned. -/
theorem RfL.devd {w' : World} (h : RfL B w q m N L vl) (hw : Ty B rfT w w') : RfL B w' q m N L vl := h.ty hw (by unfold rfT; decide) (by unfold rfT; decide) (by unfold rfT; decide)
/-- What a call leaves. -/
def RfV (B q m np N : Nat) (x : P.Po) (w w' : World) : Prop := RfP B w' q m np N x ∧ Ty B rpT w w'
theorem rfCs_append (l k : List (P.Fr × Value)) : rfCs (l ++ k) = rfCs l ++ rfCs k := by simp [rfCs]
theorem rfCs_one (l : List (P.Fr × Value)) (h : ∀ p ∈ l, ∃ a n c, p.2 = .slice a n c) : ∀ u ∈ rfCs l, u.oneCell' = true := by
  intro u hu
  simp only [rfCs, List.mem_flatten, List.mem_map] at hu
  obtain ⟨k, ⟨p, hp, rfl⟩, hu⟩ := hu
  obtain ⟨a, n, c, e⟩ := h p hp
  simp only [rfC, List.mem_cons, List.not_mem_nil, or_false] at hu
  rcases hu with rfl | rfl | rfl | rfl
  · rfl
  · rfl
  · rfl
  · rw [e]; rfl
theorem rfCs_take (L : List (P.Fr × Value)) (i : Nat) (h : i ≤ L.length) : (rfCs L).take (i * 4) = rfCs (L.take i) := by
  have e : rfCs L = rfCs (L.take i) ++ rfCs (L.drop i) := by rw [← rfCs_append, List.take_append_drop]
  have hl : (rfCs (L.take i)).length = i * 4 := by rw [rfCs_length, List.length_take]; omega
  rw [e, List.take_left' hl]
theorem rfCs_drop (L : List (P.Fr × Value)) (i : Nat) (h : i ≤ L.length) : (rfCs L).drop (i * 4) = rfCs (L.drop i) := by
  have e : rfCs L = rfCs (L.take i) ++ rfCs (L.drop i) := by rw [← rfCs_append, List.take_append_drop]
  have hl : (rfCs (L.take i)).length = i * 4 := by rw [rfCs_length, List.length_take]; omega
  rw [e, List.drop_left' hl]
theorem RV.takeR {w : World} {a : Option Addr} (h : RV w a L.length 4 (rfCs L)) (i : Nat) (hi : i ≤ L.length) : RV w a i 4 (rfCs (L.take i)) := by
  refine ⟨by rw [rfCs_length, List.length_take]; omega, by have := h.2.1; omega, fun j hj => ?_⟩
  have hl := rfCs_length L
  rw [rfCs_length, List.length_take] at hj
  obtain ⟨p, e, hp⟩ := h.2.2 j (by omega)
  refine ⟨p, e, hp.trans ?_⟩
  congr 1
  have h1 := rfCs_take L i hi
  have h2 : (rfCs (L.take i))[j]? = (rfCs L)[j]? := by rw [← h1, List.getElem?_take, if_pos (by omega)]
  rw [List.getElem?_eq_getElem (by rw [rfCs_length, List.length_take]; omega), List.getElem?_eq_getElem (by omega)] at h2
  exact (Option.some.inj h2).symm
theorem RV.dropR {w : World} {g : Nat} (h : RV w (some ⟨g, 0, none⟩) L.length 4 (rfCs L)) (i : Nat) (hi : i ≤ L.length) : RV w (some ⟨g, i * 4, none⟩) (L.length - i) 4 (rfCs (L.drop i)) := by
  refine ⟨by rw [rfCs_length, List.length_drop], by have := h.2.1; omega, fun j hj => ⟨_, rfl, ?_⟩⟩
  have hl := rfCs_length L
  rw [rfCs_length, List.length_drop] at hj
  obtain ⟨p, e, hp⟩ := h.2.2 (i * 4 + j) (by omega)
  cases e
  rw [Addr.add_lit] at hp ⊢
  rw [show i * 4 + j = 0 + (i * 4 + j) by omega, hp]
  congr 1
  have h1 := rfCs_drop L i hi
  have h2 : (rfCs (L.drop i))[j]? = (rfCs L)[i * 4 + j]? := by rw [← h1, List.getElem?_drop]
  rw [List.getElem?_eq_getElem (by rw [rfCs_length, List.length_drop]; omega), List.getElem?_eq_getElem (by omega)] at h2
  exact (Option.some.inj h2).symm
theorem OV.empty (w : World) (B : Nat) (t : TypeId) (s : Nat) (hB : B ≤ w.heap.size) : OV (w.alloc (.cells #[] t)) B t s (.slice (some ⟨w.heap.size, 0, none⟩) 0 0) 0 [] :=
  ⟨by simp, .inr ⟨w.heap.size, 0, #[], rfl, hB, alloc_new _ _ _ rfl, Nat.le_refl _, by unfold maxLen; omega, by simp, by simp⟩⟩
set_option maxRecDepth 100000 in
set_option maxHeartbeats 3200000 in
theorem rout_any (h : RfL B w q m N L vl) (i : Nat) (hi : i < L.length) (hll : L.length ≤ 5000) : Calls Tryz.prog 56 #[.pointer (some ⟨q, 0, none⟩), .int .i64 (i : Int)] w fun e w' => e = .returned (.tuple #[]) ∧ (∃ vl', RfL B w' q m N (L.eraseIdx i) vl') ∧ Ty B (fun t => t = some 72) w w' ∧ Chg (fun j => j = q) w w' := by
  obtain ⟨g, cp, rfl, hBg, hgl, hrv, hcp⟩ := h.row.pos (by omega)
  have hone : ∀ p ∈ L, ∃ a n c, p.2 = .slice a n c := fun p hp => by obtain ⟨a, n, c, e, -⟩ := h.pgs p hp; exact ⟨a, n, c, e⟩
  obtain ⟨K, hK⟩ : ∃ K, K = L.length := ⟨_, rfl⟩
  have HT := Lib.hid (RV.takeR hrv i (by omega))
  have HD := Lib.hid (RV.dropR hrv (i + 1) (by omega))
  rw [← hK] at hcp hi hll HD
  have hcm : (cp : Int) ≤ 9223372036854775807 := by
    rcases h.row.2 with ⟨e, -⟩ | ⟨g', cap', cur, e, -, -, -, hm, -⟩
    · cases e
    · injection e with _ _ e; unfold maxLen at hm; omega
  have H := Lib.hid h
  have HONE := Lib.hid hone
  have g2 : w.cell? ⟨q, 2, none⟩ = some (.slice (some ⟨g, 0, none⟩) L.length cp) := cell_blk h.pool 2
  rw [← hK] at g2
  have hq := h.lt.1
  have HBW := Lib.hid h.lt.2
  have HK := Lib.hid hK
  clear h hone hK hrv hBg hgl
  have HBE := Lib.hid (show Below w.heap.size w (w.alloc (.cells #[] 80)) from (Below.refl _ w).alloc (Nat.le_refl _) _)
  have HOE := Lib.hid (OV.empty w w.heap.size 80 4 (Nat.le_refl _))
  have i1 : (i : Int) ≤ (cp : Int) := by omega
  have i2 : i ≤ cp := by omega
  have i3 : (i : Int) < (K : Int) := by omega
  have i4 : (K : Int) ≤ (cp : Int) := by omega
  have k5 : (K : Int) ≤ 5000 := by omega
  have HO1 := Lib.hid (rfCs_one (L.take i) (fun p hp => HONE.out p (List.mem_of_mem_take hp)))
  have HO2 := Lib.hid (rfCs_one (L.drop (i + 1)) (fun p hp => HONE.out p (List.mem_of_mem_drop hp)))
  have b1 : (0 + i) * 48 ≤ 140737488355328 := by omega
  have b2 : 0 + i ≤ 140737488355328 := by omega
  have HFIN := Lib.hid (show ∀ (v6 : Value) (w6 : World), OV w6 w.heap.size 80 4 v6 (i + (K - (i + 1))) (rfCs (L.take i) ++ rfCs (L.drop (i + 1))) → Below w.heap.size w w6 →
      w6.cell? ⟨q, 2, none⟩ = some (.slice (some ⟨g, 0, none⟩) K cp) ∧ w6.frozen? ⟨q, 2, none⟩ = false ∧ (∃ vl', RfL B (w6.setCell ⟨q, 2, none⟩ v6) q m N (L.eraseIdx i) vl') ∧ Ty B (fun t => t = some 72) w (w6.setCell ⟨q, 2, none⟩ v6) ∧ Chg (fun j => j = q) w (w6.setCell ⟨q, 2, none⟩ v6) from fun v6 w6 ho hb => by
    have hp := (hb.block _ (lt_of_block H.out.pool)).trans H.out.pool
    have t2 : Ty B (fun t => t = some 72) w6 (w6.setCell ⟨q, 2, none⟩ v6) := (Ty.refl _ _ _).setCell _ _ (.inr ⟨H.out.low, _, tagA_cells hp, rfl⟩)
    have hL : (L.eraseIdx i) = L.take i ++ L.drop (i + 1) := List.eraseIdx_eq_take_drop_succ _ _
    have hn : i + (K - (i + 1)) = (L.eraseIdx i).length := by rw [List.length_eraseIdx, if_pos (by rw [← HK.out]; exact hi), ← HK.out]; omega
    rw [hn, ← rfCs_append, ← hL] at ho
    refine ⟨by rw [HK.out]; exact cell_blk hp 2, free_blk hp 2, ⟨v6, by rw [blk_setCell hp]; rfl, H.out.low, (ho.mono HBW.out).ty t2 (fun _ _ => .inr (by decide)), fun p hp => ?_⟩, (Ty.of_below hb).trans t2, (Chg.of_below hb _).setCell _ _ (.inr rfl)⟩
    exact ((H.out.pgs p (List.mem_of_mem_eraseIdx hp)).ty (Ty.of_below (B := 0) (T := fun _ => False) hb) id).ty t2 (by decide))
  by_cases hcc : i + 1 = cp
  · have HD0 := Lib.hid (show RV w (some ⟨g, 0, none⟩) 0 4 (rfCs (L.drop (i + 1))) by rw [List.drop_eq_nil_of_le (by rw [← HK.out]; omega)]; exact RV.nil _ _ _)
    obtain rfl : K = i + 1 := by omega
    subst hcc
    rw [show i + 1 - (i + 1) = 0 by omega] at HFIN
    have b3 : (i + 0) * 48 ≤ 140737488355328 := by omega
    have b4 : i + 0 ≤ 140737488355328 := by omega
    have k6 : (i : Int) + 1 ≤ 5000 := by omega
    clear hcp hi hll i1 i2 i3 i4 hcm k5
    have i1 : (i : Int) ≤ (i : Int) + 1 := by omega
    have i2 : i ≤ i + 1 := by omega
    go_enter Tryz.func56, Tryz.ntmps56
    go_wp2_with (at_builtin; refine wpList_appV framesT _ rfl _ _ rfl w.heap.size _ 0 [] rfl HOE.out (some ⟨g, 0, none⟩) i (i + 1) (rfCs (L.take i)) rfl (HT.out.below HBE.out) HO1.out b1 b2 HBE.out.size ?_)
    intro v5 w5 ho5 hg5 hat5
    have hb5 := HOE.out.grown HBE.out HBE.out.size hg5
    have g25 := (hb5.cell (p := ⟨q, 2, none⟩) hq).trans g2
    have HO5 := Lib.hid ho5
    have HB5 := Lib.hid hb5
    clear ho5 hg5 hat5 hb5 g2
    go_wp2_with (at_builtin; refine wpList_appV framesT _ rfl _ _ rfl w.heap.size v5 i _ rfl HO5.out (some ⟨g, 0, none⟩) 0 0 (rfCs (L.drop (i + 1))) rfl (HD0.out.below HB5.out) HO2.out b3 b4 HB5.out.size ?_)
    intro v6 w6 ho6 hg6 hat6
    have hb6 := HO5.out.grown HB5.out HB5.out.size hg6
    obtain ⟨g6, f6, hf6⟩ := HFIN.out v6 w6 ho6 hb6
    obtain ⟨a6, c6, hv6, -⟩ := ho6.form
    subst hv6
    have HF6 := Lib.hid hf6
    clear ho6 hg6 hat6 hb6 g25 hf6
    go_wp2
    go_end0
    exact ⟨rfl, HF6.out⟩
  · have b3 : (i + (K - (i + 1))) * 48 ≤ 140737488355328 := by omega
    have b4 : i + (K - (i + 1)) ≤ 140737488355328 := by omega
    have hcc2 : ¬ cp = i + 1 := fun e => hcc e.symm
    have i5 : i + 1 ≤ K := by omega
    have i6 : (i : Int) + 1 ≤ (K : Int) := by omega
    have i7 : (i : Int) + 1 ≤ (cp : Int) := by omega
    go_enter Tryz.func56, Tryz.ntmps56
    go_wp2_with (at_builtin; refine wpList_appV framesT _ rfl _ _ rfl w.heap.size _ 0 [] rfl HOE.out (some ⟨g, 0, none⟩) i cp (rfCs (L.take i)) rfl (HT.out.below HBE.out) HO1.out b1 b2 HBE.out.size ?_)
    intro v5 w5 ho5 hg5 hat5
    have hb5 := HOE.out.grown HBE.out HBE.out.size hg5
    have g25 := (hb5.cell (p := ⟨q, 2, none⟩) hq).trans g2
    have HO5 := Lib.hid ho5
    have HB5 := Lib.hid hb5
    clear ho5 hg5 hat5 hb5 g2
    go_wp2_with (at_builtin; refine wpList_appV framesT _ rfl _ _ rfl w.heap.size v5 i _ rfl HO5.out (some ⟨g, (i + 1) * 4, none⟩) (K - (i + 1)) (cp - (i + 1)) (rfCs (L.drop (i + 1))) rfl (HD.out.below HB5.out) HO2.out b3 b4 HB5.out.size ?_)
    intro v6 w6 ho6 hg6 hat6
    have hb6 := HO5.out.grown HB5.out HB5.out.size hg6
    obtain ⟨g6, f6, hf6⟩ := HFIN.out v6 w6 ho6 hb6
    obtain ⟨a6, c6, hv6, -⟩ := ho6.form
    subst hv6
    have HF6 := Lib.hid hf6
    clear ho6 hg6 hat6 hb6 g25 hf6
    go_wp2
    go_end0
    exact ⟨rfl, HF6.out⟩
end Go.Proofs.YtocepcibcapfbaaGreat
