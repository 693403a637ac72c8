/- Law 9: awake. -/
import Derived.Test.YtocepcibcapfbaaJ50
namespace Go.Proofs.Ytocepcibcapfbaa
set_option linter.unusedVariables false
set_option linter.unusedSimpArgs false
open Go.RowKit

/-- A new device. -/
def dv0 (np : Nat) : P.Dv := ⟨List.replicate (np * 256) 0, List.replicate (np * 256) 0, [], -1, false, 0, []⟩
theorem dv0_well (np : Nat) : (dv0 np).well := ⟨by show (-1 : Int) < 0; decide, rfl, rfl⟩
theorem dv0_img (np : Nat) : (dv0 np).img.length = 256 * np := by show (List.replicate (np * 256) (0 : UInt8)).length = _; rw [List.length_replicate]; omega
theorem lnew (w0 w : World) (np : Nat) (hb : Below w0.heap.size w0 w) (h8 : 8 ≤ np) (h4 : np ≤ 4096) : Calls Try.prog 8 #[.int .i64 (np : Int)] w fun e w' => ∃ d, e = .returned (.tuple #[.pointer (some ⟨d, 0, none⟩), .int .i64 0]) ∧ DvIs w0.heap.size w' d np (dv0 np) ∧ Below w0.heap.size w0 w' := by
  refine (dfnew_any w0.heap.size np w hb.size h8 h4).mono ?_
  rintro e w' ⟨d, rfl, -, hD, hb2⟩
  exact ⟨d, rfl, hD, below_then hb hb2 hb.size⟩
theorem lpool (w0 w : World) (d np N : Nat) (hb : Below w0.heap.size w0 w) (h : DvIs w0.heap.size w d np (dv0 np)) (hN : 8 ≤ N ∧ N ≤ 4096) (h8 : 8 ≤ np) (h4 : np ≤ 4096) : Calls Try.prog 9 #[.pointer (some ⟨d, 0, none⟩), .int .i64 (N : Int)] w fun e w' => ∃ p, e = .returned (.tuple #[.pointer (some ⟨p, 0, none⟩), .int .i64 0]) ∧ PoL w0.heap.size 0 w0 w' p d np N ⟨dv0 np, []⟩ := by
  refine (pnew_ok w0.heap.size d np N (dv0 np) w h hb.size hN ⟨h8, h4⟩).mono ?_
  rintro e w' ⟨p, rfl, -, hP, hb2⟩
  exact ⟨p, rfl, below_then hb hb2 hb.size, p, hP⟩
set_option maxRecDepth 100000 in
set_option maxHeartbeats 6400000 in
theorem awake9_any (w : World) : Calls Try.prog 7 #[] w fun e w' => e = .returned (.bool true) ∧ Below w.heap.size w w' := by
  have H1 := Lib.hid (lnew w w 16 (Below.refl _ _) (by omega) (by omega))
  go_enter Try.func7, Try.ntmps7
  go_wp2_with fail
  refine H1.out.mono ?_
  rintro e w1 ⟨d, rfl, hD, hb1⟩
  have H2 := Lib.hid (lpool w w1 d 16 8 hb1 hD (by omega) (by omega) (by omega))
  clear hD
  go_wp2_with fail
  refine H2.out.mono ?_
  rintro e w2 ⟨p, rfl, hP2⟩
  have HP2 := Lib.hid hP2
  clear hP2 hb1
  have HPG := Lib.hid (page5_any 7 1 w2)
  go_wp2_with fail
  refine HPG.out.mono ?_
  rintro e w3 ⟨a, cp, b, rfl, hr, hl, -, hb⟩
  have HP3 := Lib.hid (HP2.out.below hb).pool
  have HR3 := Lib.hid hr
  have HL := Lib.hid hl
  have t0 := P.Tl.start 8 16 (dv0 16) (dv0_well 16) (dv0_img 16)
  obtain ⟨e1, t1⟩ := t0.put (by omega) 3 (by omega) b hl
  have hops : (⟨dv0 16, []⟩ : P.Po).d.ops = 0 := rfl
  have o1 := P.put_ops 8 16 ⟨dv0 16, []⟩ ((3 : Nat) : Int) b
  have HPUT := Lib.hid (lput HP3.out ((3 : Nat) : Int) (by unfold inI; omega) a 256 cp b hr (by omega) (by rw [hops]; omega) (by omega) 0 e1)
  obtain ⟨x1, hx1⟩ : ∃ x1, x1 = (⟨dv0 16, []⟩ : P.Po).putP 8 16 ((3 : Nat) : Int) b := ⟨_, rfl⟩
  rw [← hx1] at t1 o1 HPUT
  obtain ⟨e2, e3, e4, t2⟩ := t1.pin (by omega) 3 (by omega)
  have e5 := t1.unpinned (by omega) 3 (by omega)
  rw [if_pos rfl] at e3
  have o2 := P.pin_ops 8 16 x1 ((3 : Nat) : Int)
  have o3 := P.un_d (x1.pinP 8 16 ((3 : Nat) : Int)) ((3 : Nat) : Int)
  obtain ⟨x2, hx2⟩ : ∃ x2, x2 = x1.pinP 8 16 ((3 : Nat) : Int) := ⟨_, rfl⟩
  rw [← hx2] at e4 e5 t2 o2 o3
  obtain ⟨x3, hx3⟩ : ∃ x3, x3 = x2.unP ((3 : Nat) : Int) := ⟨_, rfl⟩
  rw [← hx3] at t2 o3
  obtain ⟨e6, t3, -, e7⟩ := t2.flushed
  have o4 := P.flush_ops (x3.dirt 16) x3
  have o5 := P.dirt_len 16 x3
  obtain ⟨x4, hx4⟩ : ∃ x4, x4 = P.flushP (x3.dirt 16) x3 := ⟨_, rfl⟩
  rw [← hx4] at t3 e7 o4
  have e8 := e7 3 (by omega)
  rw [if_pos rfl] at e8
  have hz : x1.d.ops ≤ 1 := by rw [hops] at o1; omega
  have hz3 : x3.d.ops ≤ 3 := by rw [o3]; omega
  have hz4 : x4.d.ops ≤ 19 := by omega
  have HT1 := Lib.hid (And.intro t1 (And.intro e2 (And.intro e3 (And.intro e4 (And.intro e5 (And.intro hx2 (And.intro hx3 (And.intro hz (And.intro e6 (And.intro hx4 (And.intro hz3 (And.intro hz4 (And.intro t3.well e8)))))))))))))
  clear t0 e1 t1 o1 hx1 e2 e3 e4 t2 e5 o2 o3 hx2 hx3 e6 t3 e7 o4 o5 hx4 e8 hz hz3 hz4 hops hr hl hb
  go_wp2_with fail
  refine HPUT.out.mono ?_
  rintro e w4 ⟨rfl, hG4⟩
  have HG4 := Lib.hid hG4
  have HPIN := Lib.hid (lpin hG4.pool ((3 : Nat) : Int) (by unfold inI; omega) (by have := HT1.out.2.2.2.2.2.2.2.1; omega) (by omega) 0 b HT1.out.2.1 HT1.out.2.2.1)
  clear hG4
  go_wp2_with fail
  refine HPIN.out.mono ?_
  rintro e w5 ⟨a5, m5, c5, rfl, hr5, -, hG5⟩
  rw [← HT1.out.2.2.2.2.2.1] at hG5
  have HG5 := Lib.hid hG5
  have hr5' : RB w5 a5 m5 b := by simpa using hr5
  have hm5 : m5 = 256 := by have := hr5'.1.1; have := HL.out; omega
  subst hm5
  have HR5 := Lib.hid hr5'
  have hb5 := hG5.bytes _ _ _ (HG4.out.bytes _ _ _ HR3.out)
  have HB5 := Lib.hid hb5
  have HSM := Lib.hid (same_refl a a5 256 cp c5 b w5 hb5.1 hr5'.1)
  clear hG5 hr5 hr5' hb5
  go_wp2_with fail
  refine HSM.out.mono ?_
  rintro e w6 ⟨rfl, hb6⟩
  have hG6 := HG5.out.pool.below hb6
  have HG6 := Lib.hid hG6
  have HPN := Lib.hid (lpinned hG6.pool)
  rw [HT1.out.2.2.2.2.1] at HPN
  clear hG6 hb6
  go_wp2_with fail
  refine HPN.out.mono ?_
  rintro e w7 ⟨rfl, hb7⟩
  have hG7 := HG6.out.pool.below hb7
  have HG7 := Lib.hid hG7
  have HUN := Lib.hid (lunpin hG7.pool ((3 : Nat) : Int) (by unfold inI; omega) 0 HT1.out.2.2.2.1)
  clear hG7 hb7
  go_wp2_with fail
  refine HUN.out.mono ?_
  rintro e w8 ⟨rfl, hG8⟩
  rw [← HT1.out.2.2.2.2.2.2.1] at hG8
  have HG8 := Lib.hid hG8
  have HFL := Lib.hid (lflush hG8.pool (by have := HT1.out.2.2.2.2.2.2.2.2.2.2.1; omega) 0 HT1.out.2.2.2.2.2.2.2.2.1)
  clear hG8
  go_wp2_with fail
  refine HFL.out.mono ?_
  rintro e w9 ⟨rfl, hG9⟩
  rw [← HT1.out.2.2.2.2.2.2.2.2.2.1] at hG9
  have HG9 := Lib.hid hG9
  have HRD := Lib.hid (lread hG9.pool HT1.out.2.2.2.2.2.2.2.2.2.2.2.2.1 3 (by omega) (by have := HT1.out.2.2.2.2.2.2.2.2.2.2.2.1; omega))
  rw [HT1.out.2.2.2.2.2.2.2.2.2.2.2.2.2] at HRD
  clear hG9
  go_wp2_with fail
  refine HRD.out.mono ?_
  rintro e w10 ⟨a10, m10, c10, rfl, hr10, hG10⟩
  have hm10 : m10 = 256 := by have := hr10.1.1; have := HL.out; omega
  subst hm10
  have hb10 := hG10.bytes _ _ _ (HG9.out.bytes _ _ _ (HG8.out.bytes _ _ _ (HG7.out.bytes _ _ _ (HG6.out.bytes _ _ _ HB5.out))))
  have HSM2 := Lib.hid (same_refl a a10 256 cp c10 b w10 hb10.1 hr10.1)
  have HB10 := Lib.hid hG10.pool.1
  clear hG10 hb10 hr10
  go_wp2_with fail
  refine HSM2.out.mono ?_
  rintro e w11 ⟨rfl, hb11⟩
  have HF := Lib.hid (below_then HB10.out hb11 HB10.out.size)
  clear hb11
  go_wp2
  go_ret
  exact ⟨rfl, HF.out⟩
end Go.Proofs.Ytocepcibcapfbaa
