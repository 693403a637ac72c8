/- Law 5's Page. -/
import Derived.Test.YtocepcibcapfbaaGreatJ43
import Derived.Test.YtocepcibcapfbaaGreatJ03
namespace Go.Proofs.YtocepcibcapfbaaGreat
set_option linter.unusedVariables false
set_option linter.unusedSimpArgs false
set_option linter.unusedSectionVars false
open Go.RowKit
variable [Inhabited AvT]

def blankP : Array Value := (List.replicate 256 (Value.int .u8 0)).toArray
theorem mk_blankP (w : World) : (Instr.makeSlice 38 (.int .i64 256) (.int .i64 256)).run Tryz.prog w = .ok (.slice (some ⟨w.heap.size, 0, none⟩) 256 256) (w.alloc (.cells blankP 5)) := by
  kernel_rfl
/-- A page that is being filled: k bytes are. -/
def Filled (fill : UInt8) (g k : Nat) (w : World) : Prop := ∃ C : Array Value, w.heap[g]? = some (.cells C 5 (0, 0)) ∧ C.size = 256 ∧ (∀ m, m < 256 → ∃ b : UInt8, C[m]? = some (bv b)) ∧ (0 < k → C[0]? = some (bv fill))
theorem mod_byte (x : Int) : ∃ b : UInt8, x % 256 = (b.toNat : Int) := by
  refine ⟨UInt8.ofNat (x % 256).toNat, ?_⟩
  have h2 : (UInt8.ofNat (x % 256).toNat).toNat = (x % 256).toNat % 256 := rfl
  rw [h2]
  omega
def unbv : Value → UInt8
  | .int _ q => UInt8.ofNat q.toNat
  | _ => 0
set_option maxRecDepth 100000 in
set_option maxHeartbeats 1600000 in
theorem page5_any (fill : UInt8) (n : Int) (w : World) (hav : ∀ k, av k → k < w.heap.size) : Calls Tryz.prog 15 #[.int .u8 (fill.toNat : Int), .int .i64 n] w fun e w' => ∃ a cp b, e = .returned (.slice a 256 cp) ∧ RB w' a 256 b ∧ b.length = 256 ∧ b[0]? = some fill ∧ Below w.heap.size w w' := by
  have HAV := Lib.hid hav
  clear hav
  have hmk := mk_blankP w
  have hbl : Below w.heap.size w (w.alloc (.cells blankP 5)) := (Below.refl _ w).alloc (Nat.le_refl _) _
  have HB := Lib.hid hbl
  have HST := Lib.hid (show Filled fill w.heap.size 0 (w.alloc (.cells blankP 5)) from ⟨blankP, alloc_new _ _ _ rfl, by unfold blankP; simp, fun m hm => ⟨0, by unfold blankP; rw [List.getElem?_toArray, List.getElem?_replicate, if_pos hm]; rfl⟩, fun h => by omega⟩)
  generalize hw0 : w.alloc (.cells blankP 5) = w0 at *
  clear hbl hw0
  go_enter Tryz.func15, Tryz.ntmps15
  go_wp2
  go_loopw [6] (fun s6 wr => ∃ k : Nat, k ≤ 256 ∧ s6 = .int .i64 k ∧ Filled fill w.heap.size k wr ∧ Below w.heap.size w wr) (fun s6 _ => 256 - (ivOf s6).toNat)
  case atStart => exact ⟨0, by omega, rfl, HST.out, HB.out⟩
  case round =>
    obtain ⟨k, hk, rfl, hF, hb⟩ := hrel
    by_cases hlt : k < 256
    · obtain ⟨C, hC, hs, hm, h0⟩ := hF
      have g := cell_blk hC
      have f := free_blk hC
      obtain ⟨b0, hb0⟩ := hm k hlt
      have g' : wr.cell? ⟨w.heap.size, k, none⟩ = some (bv b0) := (g k).trans hb0
      have HC := Lib.hid hC
      have HS := Lib.hid hs
      have HM := Lib.hid hm
      have H0 := Lib.hid h0
      have HBR := Lib.hid hb
      have i0 : (0 : Int) ≤ (k : Int) := by omega
      have i1 : (k : Int) < 256 := by omega
      have hf0 : (0 : Int) ≤ (fill.toNat : Int) := by omega
      have hf1 : (fill.toNat : Int) ≤ 255 := by have := fill.toNat_lt; omega
      have hstep : ∀ b : UInt8, (k = 0 → b = fill) → Filled fill w.heap.size (k + 1) (wr.setCell ⟨w.heap.size, k, none⟩ (bv b)) ∧ Below w.heap.size w (wr.setCell ⟨w.heap.size, k, none⟩ (bv b)) := fun b hbk => by
        refine ⟨⟨C.setIfInBounds k (bv b), blk_setCell HC.out k _, by simpa using HS.out, fun m hm2 => ?_, fun _ => ?_⟩, HBR.out.setCell (Nat.le_refl _) _⟩
        · by_cases e : m = k
          · subst e
            exact ⟨b, by rw [Array.getElem?_setIfInBounds_self_of_lt (by rw [HS.out]; exact hlt)]⟩
          · rw [Array.getElem?_setIfInBounds_ne (by omega)]
            exact HM.out m hm2
        · by_cases e : k = 0
          · subst e
            rw [Array.getElem?_setIfInBounds_self_of_lt (by rw [HS.out]; omega), hbk rfl]
          · rw [Array.getElem?_setIfInBounds_ne (by omega)]
            exact H0.out (by omega)
      have HSTEP := Lib.hid hstep
      clear g hC hs hm h0 hb hb0 hstep
      by_cases hk0 : k = 0
      · subst hk0
        go_wp2
        exact ⟨⟨1, by omega, rfl, HSTEP.out fill (fun _ => rfl)⟩, by decide⟩
      · have i2 : (0 : Int) < (k : Int) := by omega
        have HK0 := Lib.hid hk0
        clear hk0
        go_wp2
        obtain ⟨b, hb⟩ := mod_byte ((fill.toNat : Int) + wrap64 ((k : Int) / 64 * n))
        rw [hb]
        exact ⟨⟨k + 1, by omega, by go_num, HSTEP.out b (fun h => absurd h HK0.out)⟩, by simp [ivOf]; omega⟩
    · obtain rfl : k = 256 := by omega
      obtain ⟨C, hC, hs, hm, h0⟩ := hF
      have hfin : ∃ b : List UInt8, RB wr (some ⟨w.heap.size, 0, none⟩) 256 b ∧ b.length = 256 ∧ b[0]? = some fill := by
        have hb : ∀ m, m < 256 → C[m]? = some (bv ((C.toList.map unbv)[m]?.getD 0)) := fun m hm2 => by
          obtain ⟨b, hb⟩ := hm m hm2
          rw [List.getElem?_map, Array.getElem?_toList, hb]
          simp [unbv, bv]
        have hl : (C.toList.map unbv).length = 256 := by simp [hs]
        refine ⟨C.toList.map unbv, ⟨⟨hl, by unfold maxLen; omega, fun i hi => ⟨_, rfl, ?_⟩⟩, fun _ p e => by cases e; exact ⟨tagA_cells hC, fun hk => by have h1 := HAV.out _ hk; exact absurd h1 (Nat.lt_irrefl _)⟩⟩, hl, ?_⟩
        · rw [Addr.add_lit, Nat.zero_add, cell_blk hC, hb i (by omega), List.getElem?_eq_getElem hi]
          rfl
        · rw [List.getElem?_map, Array.getElem?_toList, h0 (by omega)]
          simp [unbv, bv]
      obtain ⟨b, hb1, hb2, hb3⟩ := hfin
      have HF := Lib.hid (And.intro hb1 (And.intro hb2 (And.intro hb3 hb)))
      clear hC hs hm h0 hb1 hb2 hb3 hb
      go_wp2
      go_ret
      exact ⟨_, _, b, rfl, HF.out⟩
end Go.Proofs.YtocepcibcapfbaaGreat
/- Law 9: awake. -/
namespace Go.Proofs.YtocepcibcapfbaaGreat
set_option linter.unusedVariables false
set_option linter.unusedSimpArgs false
set_option linter.unusedSectionVars false
open Go.RowKit

/-- A new device. -/
def dv0 (np : Nat) : P.Dv := ⟨List.replicate (np * 256) 0, List.replicate (np * 256) 0, [], -1, false, 0, []⟩
theorem dv0_well (np : Nat) : (dv0 np).well := ⟨by show (-1 : Int) < 0; decide, rfl, rfl⟩
theorem dv0_img (np : Nat) : (dv0 np).img.length = 256 * np := by show (List.replicate (np * 256) (0 : UInt8)).length = _; rw [List.length_replicate]; omega
theorem lnew [Inhabited AvT] (w0 w : World) (np : Nat) (hb : Below w0.heap.size w0 w) (h8 : 8 ≤ np) (h4 : np ≤ 4096) (hav : ∀ k, av k → k < w.heap.size) : Calls Tryz.prog 6 #[.int .i64 (np : Int)] w fun e w' => ∃ d, e = .returned (.tuple #[.pointer (some ⟨d, 0, none⟩), .int .i64 0]) ∧ DvIs w0.heap.size w' d np (dv0 np) ∧ Below w0.heap.size w0 w' := by
  refine (dfnew_any w0.heap.size np w hb.size h8 h4 hav).mono ?_
  rintro e w' ⟨d, rfl, -, hD, hb2⟩
  exact ⟨d, rfl, hD, below_then hb hb2 hb.size⟩
theorem lpool [Inhabited AvT] (w0 w : World) (d np N : Nat) (hb : Below w0.heap.size w0 w) (h : DvIs w0.heap.size w d np (dv0 np)) (hN : 8 ≤ N ∧ N ≤ 4096) (h8 : 8 ≤ np) (h4 : np ≤ 4096) : Calls Tryz.prog 8 #[.pointer (some ⟨d, 0, none⟩), .int .i64 (N : Int)] w fun e w' => ∃ p, e = .returned (.tuple #[.pointer (some ⟨p, 0, none⟩), .int .i64 0]) ∧ PoL w0.heap.size 0 w0 w' p d np N ⟨dv0 np, []⟩ := by
  refine (pnew_ok w0.heap.size d np N (dv0 np) w h hb.size hN ⟨h8, h4⟩).mono ?_
  rintro e w' ⟨p, rfl, -, hP, hb2⟩
  exact ⟨p, rfl, below_then hb hb2 hb.size, p, hP⟩
set_option maxRecDepth 100000 in
set_option maxHeartbeats 6400000 in
theorem awake9_any (w : World) : Calls Tryz.prog 4 #[] w fun e w' => e = .returned (.bool true) ∧ Below w.heap.size w w' := by
  obtain ⟨I, hI⟩ : ∃ I : Inhabited AvT, ∀ k, ¬ @av I k := ⟨⟨⟨fun _ => False⟩⟩, fun _ h => h⟩
  have HAV := Lib.hid (show ∀ w : World, ∀ k, av k → k < w.heap.size from fun w k h => absurd h (hI k))
  clear hI
  have H1 := Lib.hid (lnew w w 16 (Below.refl _ _) (by omega) (by omega) (HAV.out _))
  go_enter Tryz.func4, Tryz.ntmps4
  go_wp2_with fail
  refine H1.out.mono ?_
  rintro e w1 ⟨d, rfl, hD, hb1⟩
  have H2 := Lib.hid (lpool w w1 d 16 8 hb1 hD (by omega) (by omega) (by omega))
  clear hD
  go_wp2_with fail
  refine H2.out.mono ?_
  rintro e w2 ⟨p, rfl, hP2⟩
  have HP2 := Lib.hid hP2
  clear hP2 hb1
  have HPG := Lib.hid (page5_any 7 1 w2 (HAV.out _))
  go_wp2_with fail
  refine HPG.out.mono ?_
  rintro e w3 ⟨a, cp, b, rfl, hr, hl, -, hb⟩
  have HP3 := Lib.hid (HP2.out.below hb).pool
  have HR3 := Lib.hid hr
  have HL := Lib.hid hl
  have t0 := P.Tl.start 8 16 (dv0 16) (dv0_well 16) (dv0_img 16)
  obtain ⟨e1, t1⟩ := t0.put (by omega) 3 (by omega) b hl
  have hops : (⟨dv0 16, []⟩ : P.Po).d.ops = 0 := rfl
  have o1 := P.put_ops 8 16 ⟨dv0 16, []⟩ ((3 : Nat) : Int) b
  have HPUT := Lib.hid (lput HP3.out ((3 : Nat) : Int) (by unfold inI; omega) a 256 cp b hr (by omega) (by rw [hops]; omega) (by omega) 0 e1)
  obtain ⟨x1, hx1⟩ : ∃ x1, x1 = (⟨dv0 16, []⟩ : P.Po).putP 8 16 ((3 : Nat) : Int) b := ⟨_, rfl⟩
  rw [← hx1] at t1 o1 HPUT
  obtain ⟨e2, e3, e4, t2⟩ := t1.pin (by omega) 3 (by omega)
  have e5 := t1.unpinned (by omega) 3 (by omega)
  rw [if_pos rfl] at e3
  have o2 := P.pin_ops 8 16 x1 ((3 : Nat) : Int)
  have o3 := P.un_d (x1.pinP 8 16 ((3 : Nat) : Int)) ((3 : Nat) : Int)
  obtain ⟨x2, hx2⟩ : ∃ x2, x2 = x1.pinP 8 16 ((3 : Nat) : Int) := ⟨_, rfl⟩
  rw [← hx2] at e4 e5 t2 o2 o3
  obtain ⟨x3, hx3⟩ : ∃ x3, x3 = x2.unP ((3 : Nat) : Int) := ⟨_, rfl⟩
  rw [← hx3] at t2 o3
  obtain ⟨e6, t3, -, e7⟩ := t2.flushed
  have o4 := P.flush_ops (x3.dirt 16) x3
  have o5 := P.dirt_len 16 x3
  obtain ⟨x4, hx4⟩ : ∃ x4, x4 = P.flushP (x3.dirt 16) x3 := ⟨_, rfl⟩
  rw [← hx4] at t3 e7 o4
  have e8 := e7 3 (by omega)
  rw [if_pos rfl] at e8
  have hz : x1.d.ops ≤ 1 := by rw [hops] at o1; omega
  have hz3 : x3.d.ops ≤ 3 := by rw [o3]; omega
  have hz4 : x4.d.ops ≤ 19 := by omega
  have HT1 := Lib.hid (And.intro t1 (And.intro e2 (And.intro e3 (And.intro e4 (And.intro e5 (And.intro hx2 (And.intro hx3 (And.intro hz (And.intro e6 (And.intro hx4 (And.intro hz3 (And.intro hz4 (And.intro t3.well e8)))))))))))))
  clear t0 e1 t1 o1 hx1 e2 e3 e4 t2 e5 o2 o3 hx2 hx3 e6 t3 e7 o4 o5 hx4 e8 hz hz3 hz4 hops hr hl hb
  go_wp2_with fail
  refine HPUT.out.mono ?_
  rintro e w4 ⟨rfl, hG4⟩
  have HG4 := Lib.hid hG4
  have HPIN := Lib.hid (lpin hG4.pool ((3 : Nat) : Int) (by unfold inI; omega) (by have := HT1.out.2.2.2.2.2.2.2.1; omega) (by omega) 0 b HT1.out.2.1 HT1.out.2.2.1)
  clear hG4
  go_wp2_with fail
  refine HPIN.out.mono ?_
  rintro e w5 ⟨a5, m5, c5, rfl, hr5, -, hG5⟩
  rw [← HT1.out.2.2.2.2.2.1] at hG5
  have HG5 := Lib.hid hG5
  have hr5' : RB w5 a5 m5 b := by simpa using hr5
  have hm5 : m5 = 256 := by have := hr5'.1.1; have := HL.out; omega
  subst hm5
  have HR5 := Lib.hid hr5'
  have hb5 := hG5.bytes _ _ _ (HG4.out.bytes _ _ _ HR3.out)
  have HB5 := Lib.hid hb5
  have HSM := Lib.hid (same_refl a a5 256 cp c5 b w5 hb5.1 hr5'.1)
  clear hG5 hr5 hr5' hb5
  go_wp2_with fail
  refine HSM.out.mono ?_
  rintro e w6 ⟨rfl, hb6⟩
  have hG6 := HG5.out.pool.below hb6
  have HG6 := Lib.hid hG6
  have HPN := Lib.hid (lpinned hG6.pool)
  rw [HT1.out.2.2.2.2.1] at HPN
  clear hG6 hb6
  go_wp2_with fail
  refine HPN.out.mono ?_
  rintro e w7 ⟨rfl, hb7⟩
  have hG7 := HG6.out.pool.below hb7
  have HG7 := Lib.hid hG7
  have HUN := Lib.hid (lunpin hG7.pool ((3 : Nat) : Int) (by unfold inI; omega) 0 HT1.out.2.2.2.1)
  clear hG7 hb7
  go_wp2_with fail
  refine HUN.out.mono ?_
  rintro e w8 ⟨rfl, hG8⟩
  rw [← HT1.out.2.2.2.2.2.2.1] at hG8
  have HG8 := Lib.hid hG8
  have HFL := Lib.hid (lflush hG8.pool (by have := HT1.out.2.2.2.2.2.2.2.2.2.2.1; omega) 0 HT1.out.2.2.2.2.2.2.2.2.1)
  clear hG8
  go_wp2_with fail
  refine HFL.out.mono ?_
  rintro e w9 ⟨rfl, hG9⟩
  rw [← HT1.out.2.2.2.2.2.2.2.2.2.1] at hG9
  have HG9 := Lib.hid hG9
  have HRD := Lib.hid (lread hG9.pool HT1.out.2.2.2.2.2.2.2.2.2.2.2.2.1 3 (by omega) (by have := HT1.out.2.2.2.2.2.2.2.2.2.2.2.1; omega))
  rw [HT1.out.2.2.2.2.2.2.2.2.2.2.2.2.2] at HRD
  clear hG9
  go_wp2_with fail
  refine HRD.out.mono ?_
  rintro e w10 ⟨a10, m10, c10, rfl, hr10, hG10⟩
  have hm10 : m10 = 256 := by have := hr10.1.1; have := HL.out; omega
  subst hm10
  have hb10 := hG10.bytes _ _ _ (HG9.out.bytes _ _ _ (HG8.out.bytes _ _ _ (HG7.out.bytes _ _ _ (HG6.out.bytes _ _ _ HB5.out))))
  have HSM2 := Lib.hid (same_refl a a10 256 cp c10 b w10 hb10.1 hr10.1)
  have HB10 := Lib.hid hG10.pool.1
  clear hG10 hb10 hr10
  go_wp2_with fail
  refine HSM2.out.mono ?_
  rintro e w11 ⟨rfl, hb11⟩
  have HF := Lib.hid (below_then HB10.out hb11 HB10.out.size)
  clear hb11
  go_wp2
  go_ret
  exact ⟨rfl, HF.out⟩
end Go.Proofs.YtocepcibcapfbaaGreat
/- Law 9: the deeds; room. -/
namespace Go.Proofs.YtocepcibcapfbaaGreat
set_option linter.unusedVariables false
set_option linter.unusedSimpArgs false
set_option linter.unusedSectionVars false
open Go.RowKit
variable [Inhabited AvT]

/-- Is there room for the deeds? -/
def roomB (l : List Deed) : Prop := l.length ≤ 200 ∧ ∀ q ∈ l, (∀ a m c, q.b = .slice a m c → m ≤ 100) ∧ q.n ≤ 1048576
set_option maxRecDepth 100000 in
set_option maxHeartbeats 3200000 in
theorem room9_any (a : Option Addr) (n cap : Nat) (l : List Deed) (w : World) (hl : RD w a n l) : Calls Tryz.prog 5 #[.slice a n cap] w fun e w' => ∃ r : Bool, e = .returned (.bool r) ∧ (r = true → roomB l) ∧ Below w.heap.size w w' := by
  have HL := Lib.hid hl
  have HLN := Lib.hid hl.len
  clear hl
  by_cases h200 : n ≤ 200
  rotate_left
  · have g : (200 : Int) < (n : Int) := by omega
    clear h200
    go_enter Tryz.func5, Tryz.ntmps5
    go_wp2
    go_ret
    exact ⟨false, rfl, (fun h => by cases h), Below.refl _ _⟩
  have g : (n : Int) ≤ 200 := by omega
  go_enter Tryz.func5, Tryz.ntmps5
  go_wp2
  go_loopw [3] (fun s3 wr => ∃ k : Nat, k ≤ n ∧ s3 = .int .i64 k ∧ (∀ q ∈ l.take k, (∀ a m c, q.b = .slice a m c → m ≤ 100) ∧ q.n ≤ 1048576) ∧ Below w.heap.size w wr) (fun s3 _ => n - (ivOf s3).toNat)
  case atStart => exact ⟨0, Nat.zero_le _, rfl, fun q hq => by simp at hq, Below.refl _ _⟩
  case round =>
    obtain ⟨k, hk, rfl, hq, hb⟩ := hrel
    by_cases hlt : k < n
    · have i0 : (0 : Int) ≤ (k : Int) := by omega
      have i1 : (k : Int) < (n : Int) := by omega
      have hkl : k < l.length := by rw [HLN.out]; exact hlt
      obtain ⟨p, rfl, -, hc1, -, -, hc4⟩ := (HL.out.below hb).at k hkl
      obtain ⟨-, -, -, ab, mb, cb, bs, hbe, -⟩ := (HL.out.below hb).2 l[k] (List.getElem_mem _)
      rw [hbe] at hc4
      have hsn : ∀ q ∈ l.take (k + 1), q ∈ l.take k ∨ q = l[k] := fun q hq => by
        rw [List.take_succ_eq_append_getElem hkl, List.mem_append, List.mem_singleton] at hq
        exact hq
      have HQ := Lib.hid (And.intro hq (And.intro hsn hbe))
      have HB := Lib.hid hb
      obtain ⟨z, hz⟩ : ∃ z, z = l[k].n := ⟨_, rfl⟩
      rw [← hz] at hc1
      have HZ := Lib.hid hz
      clear hq hsn hbe hz hb
      by_cases hm : mb ≤ 100
      · have m1 : (mb : Int) ≤ 100 := by omega
        by_cases hn : z ≤ 1048576
        · have HN := Lib.hid (show ∀ q ∈ l.take (k + 1), (∀ a m c, q.b = .slice a m c → m ≤ 100) ∧ q.n ≤ 1048576 from fun q hq => by
            rcases HQ.out.2.1 q hq with h | rfl
            · exact HQ.out.1 q h
            · refine ⟨fun a m c e => ?_, by rw [← HZ.out]; exact hn⟩
              rw [HQ.out.2.2] at e
              cases e
              exact hm)
          go_wp2
          exact ⟨⟨k + 1, by omega, by go_num, HN.out, HB.out⟩, by simp [ivOf]; omega⟩
        · have hn2 : (1048576 : Int) < z := by omega
          clear hn
          go_wp2
          go_ret
          exact ⟨false, rfl, (fun h => by cases h), HB.out⟩
      · have m1 : (100 : Int) < (mb : Int) := by omega
        clear hm
        go_wp2
        go_ret
        exact ⟨false, rfl, (fun h => by cases h), HB.out⟩
    · obtain rfl : k = n := by omega
      have HQ := Lib.hid (show roomB l from ⟨by rw [HLN.out]; exact h200, fun q h => hq q (by rw [← HLN.out, List.take_length]; exact h)⟩)
      have HB := Lib.hid hb
      clear hq hb
      go_wp2
      go_ret
      exact ⟨true, rfl, fun _ => HQ.out, HB.out⟩
end Go.Proofs.YtocepcibcapfbaaGreat
