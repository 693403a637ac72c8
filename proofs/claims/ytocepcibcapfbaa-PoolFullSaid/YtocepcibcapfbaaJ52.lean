/- Law 9: PoolKnown. -/
import Derived.Test.YtocepcibcapfbaaJ51
namespace Go.Proofs.Ytocepcibcapfbaa
set_option linter.unusedVariables false
set_option linter.unusedSimpArgs false
open Go.RowKit

theorem kn_congr {np k : Nat} {F G : Nat → List UInt8} {p : P.Po} (h : P.Kn np F k p) (hFG : ∀ m, m < k → F m = G m) : P.Kn np G k p :=
  ⟨h.ok, h.well, h.pgs, fun f hf => by
    obtain ⟨h1, h2, h3⟩ := h.each f hf
    refine ⟨h1, h2, ?_⟩
    rw [h3]
    apply hFG
    have : f.pg ∈ p.l.map (·.pg) := List.mem_map.2 ⟨f, hf, rfl⟩
    rw [h.pgs] at this
    exact List.mem_range.1 this⟩
/-- Behind k pages put. -/
def KnR (w0 : World) (p d k : Nat) (wr : World) : Prop := ∃ (x : P.Po) (F : Nat → List UInt8), PoL w0.heap.size k w0 wr p d 16 8 x ∧ x.d.ops ≤ k ∧ (0 < k → (F 0)[0]? = some 1) ∧
  ((k ≤ 8 ∧ P.Kn 16 F k x) ∨ (k = 9 ∧ x.d.well ∧ P.pgD x.d.img 0 = F 0 ∧ (x.res 16).length = 8 ∧ x.unE 0 = 10))
theorem page5_int (q n : Int) (h0 : 0 ≤ q) (h1 : q < 256) (w : World) : Calls Try.prog 11 #[.int .u8 q, .int .i64 n] w fun e w' => ∃ a cp b, e = .returned (.slice a 256 cp) ∧ RB w' a 256 b ∧ b.length = 256 ∧ b[0]? = some (UInt8.ofNat q.toNat) ∧ Below w.heap.size w w' := by
  have h := page5_any (UInt8.ofNat q.toNat) n w
  have e : ((UInt8.ofNat q.toNat).toNat : Int) = q := by
    have : (UInt8.ofNat q.toNat).toNat = q.toNat % 256 := rfl
    rw [this]
    omega
  rw [e] at h
  exact h
theorem knr_step {w0 wr w' : World} {p d k : Nat} {x : P.Po} {F : Nat → List UInt8} {b : List UInt8} (hk : k < 9) (ho : x.d.ops ≤ k) (hF0 : 0 < k → (F 0)[0]? = some 1) (hK : P.Kn 16 F k x) (hb : b.length = 256) (hb0 : b[0]? = some (UInt8.ofNat (k + 1))) :
    x.putE 8 16 (k : Int) b = 0 ∧ (PoL w0.heap.size (k + 1) w0 w' p d 16 8 (x.putP 8 16 (k : Int) b) → KnR w0 p d (k + 1) w') := by
  have o1 := P.put_ops 8 16 x (k : Int) b
  have hG : ∀ m, m < k → F m = (fun m => if m = k then b else F m) m := fun m hm => by simp [show m ≠ k by omega]
  have hK2 := kn_congr hK hG
  rcases Nat.lt_or_ge k 8 with h | h
  · have h2 := hK2.put h (by omega) (by simpa using hb)
    rw [show (if k = k then b else F k) = b from if_pos rfl] at h2
    refine ⟨h2.1, fun hP => ⟨_, _, hP, by omega, fun _ => ?_, .inl ⟨by omega, h2.2⟩⟩⟩
    by_cases h0 : k = 0
    · subst h0
      simpa using hb0
    · simp only [show (0 : Nat) ≠ k by omega, if_false]
      exact hF0 (by omega)
  · obtain rfl : k = 8 := by omega
    have h2 := hK2.ninth (by omega) (by simpa using hb)
    rw [show (if (8 : Nat) = 8 then b else F 8) = b from if_pos rfl] at h2
    exact ⟨h2.1, fun hP => ⟨_, F, hP, by omega, fun _ => hF0 (by omega), .inr ⟨rfl, h2.2.2.1, h2.2.2.2.1.trans (if_neg (by decide)), h2.2.2.2.2.1, h2.2.2.2.2.2⟩⟩⟩
set_option maxRecDepth 100000 in
set_option maxHeartbeats 6400000 in
theorem poolKnown_walk (w : World) : Calls Try.prog 3 #[] w fun e w' => e = .returned (.bool true) ∧ Below w.heap.size w w' := by
  have HA := Lib.hid (awake9_any w)
  go_enter Try.func3, Try.ntmps3
  go_wp2_with fail
  refine HA.out.mono ?_
  rintro e w1 ⟨rfl, hb1⟩
  have H1 := Lib.hid (lnew w w1 16 hb1 (by omega) (by omega))
  clear hb1
  go_wp2_with fail
  refine H1.out.mono ?_
  rintro e w2 ⟨d, rfl, hD, hb2⟩
  have H2 := Lib.hid (lpool w w2 d 16 8 hb2 hD (by omega) (by omega) (by omega))
  have HN1 := Lib.hid (pnew_no (.pointer (some ⟨d, 0, none⟩)) (.inr ⟨d, rfl⟩) 7 w2 (.inr (by omega)))
  have HN2 := Lib.hid (pnew_no (.pointer none) (.inl rfl) 8 w2 (.inl rfl))
  clear hD hb2
  go_wp2_with fail
  refine HN1.out.mono ?_
  rintro e w3 ⟨rfl, rfl⟩
  go_wp2_with fail
  refine HN2.out.mono ?_
  rintro e w3 ⟨rfl, rfl⟩
  go_wp2_with fail
  refine H2.out.mono ?_
  rintro e w3 ⟨p, rfl, hP⟩
  have HST := Lib.hid (show KnR w p d 0 w3 from ⟨_, fun _ => [], hP, Nat.le_refl _, fun h => by omega, .inl ⟨by omega, ⟨List.nodup_nil, fun f hf => by simp at hf, by simp, dv0_img 16⟩, dv0_well 16, rfl, fun f hf => by simp at hf⟩⟩)
  clear hP
  go_wp2
  go_loopw [9] (fun s9 wr => ∃ k : Nat, k ≤ 9 ∧ s9 = .int .i64 k ∧ KnR w p d k wr) (fun s9 _ => 9 - (ivOf s9).toNat)
  case atStart => exact ⟨0, by omega, rfl, HST.out⟩
  case round =>
    obtain ⟨k, hk, rfl, x, F, hP, ho, hF0, hcs⟩ := hrel
    by_cases hlt : k < 9
    · rcases hcs with ⟨h8, hK⟩ | ⟨h9, -⟩
      rotate_left
      · omega
      have i0 : (0 : Int) ≤ (k : Int) := by omega
      have i1 : (k : Int) < 9 := by omega
      have HPG := Lib.hid (page5_int ((k : Int) + 1) 0 (by omega) (by omega) wr)
      have HP := Lib.hid hP
      have HX := Lib.hid (And.intro ho (And.intro hF0 hK))
      clear hP ho hF0 hK h8
      go_wp2_with fail
      refine HPG.out.mono ?_
      rintro e w4 ⟨a, cp, b, rfl, hr, hl, hb0, hb⟩
      rw [show ((k : Int) + 1).toNat = k + 1 by omega] at hb0
      have hst := fun w' => knr_step (w0 := w) (w' := w') (wr := wr) (p := p) (d := d) hlt HX.out.1 HX.out.2.1 HX.out.2.2 hl hb0
      have HPUT := Lib.hid (lput (HP.out.below hb).pool (k : Int) (by unfold inI; omega) a 256 cp b hr (by omega) (by have := HX.out.1; omega) (by omega) 0 (hst wr).1)
      have HST2 := Lib.hid (fun w' => (hst w').2)
      clear hr hl hb0 hb hst
      go_wp2_with fail
      refine HPUT.out.mono ?_
      rintro e w5 ⟨rfl, hG⟩
      have HN := Lib.hid (HST2.out w5 hG.pool)
      clear hG
      go_wp2
      exact ⟨⟨k + 1, by omega, by go_num, HN.out⟩, by simp [ivOf]; omega⟩
    · obtain rfl : k = 9 := by omega
      rcases hcs with ⟨h8, -⟩ | ⟨-, hw, hpg, hres, hun⟩
      · omega
      have hF := hF0 (by omega)
      have HRD := Lib.hid (lread hP hw 0 (by omega) (by omega))
      rw [hpg] at HRD
      have HXX := Lib.hid (And.intro hres (And.intro hun (And.intro hF ho)))
      clear hP hw hpg hres hun hF hF0 ho
      go_wp2_with fail
      refine HRD.out.mono ?_
      rintro e w4 ⟨a, m, cp, rfl, hr, hG⟩
      have hres2 : ((⟨x.d.rdD, x.l⟩ : P.Po).res 16).length = 8 := HXX.out.1
      have HRS := Lib.hid (lresident hG.pool)
      rw [hres2] at HRS
      have HG := Lib.hid hG
      obtain ⟨q, hq, hc⟩ : ∃ q, a = some q ∧ w4.cell? (q.add 0) = some (.int .u8 1) := by
        have h1 := HXX.out.2.2.1
        have hl := (List.getElem?_eq_some_iff.1 h1)
        obtain ⟨hlt0, he0⟩ := hl
        obtain ⟨q, hq, hc⟩ := hr.1.2.2 0 hlt0
        refine ⟨q, hq, ?_⟩
        rw [hc, he0]
        rfl
      subst hq
      have hm0 : 0 < m := by have h1 := (List.getElem?_eq_some_iff.1 HXX.out.2.2.1); obtain ⟨h2, -⟩ := h1; have := hr.1.1; omega
      have hm1 : (0 : Int) < (m : Int) := by omega
      have HC := Lib.hid hc
      clear hG hr hc hres2
      go_wp2_with fail
      refine HRS.out.mono ?_
      rintro e w5 ⟨a5, c5, rfl, -, -, hb5⟩
      have hG5 := HG.out.pool.below hb5
      have hc5 : w5.cell? (q.add 0) = some (.int .u8 1) := (hb5.cell (lt_of_cell HC.out)).trans HC.out
      rw [show q.add 0 = q from Addr.add_zero' q] at hc5
      have HUN := Lib.hid (lunpin hG5.pool 0 (by unfold inI; omega) 10 HXX.out.2.1)
      clear hb5 hG5
      go_wp2_with fail
      refine HUN.out.mono ?_
      rintro e w6 ⟨rfl, hG6⟩
      have HF := Lib.hid hG6.pool.1
      clear hG6
      go_wp2
      go_ret
      exact ⟨rfl, HF.out⟩
end Go.Proofs.Ytocepcibcapfbaa
