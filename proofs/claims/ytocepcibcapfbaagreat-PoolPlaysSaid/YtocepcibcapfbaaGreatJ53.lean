/- Law 9: PoolPlays: two rows of numbers are; how it begins. -/
import Derived.Test.YtocepcibcapfbaaGreatJ52
import Derived.Deep.CutBlock
namespace Go.Proofs.YtocepcibcapfbaaGreat
set_option linter.unusedVariables false
set_option linter.unusedSimpArgs false
set_option linter.unusedSectionVars false
open Go.RowKit

set_option maxRecDepth 100000 in
set_option maxHeartbeats 1600000 in
theorem ints_same (a b : Option Addr) (n ca cb : Nat) (l : List Int) (w : World) (ha : RI w a n l) (hb : RI w b n l) (hn : n ≤ 5000) : Calls Tryz.prog 27 #[.slice a n ca, .slice b n cb] w fun e w' => e = .returned (.bool true) ∧ Below w.heap.size w w' := by
  have HA := Lib.hid ha
  have HB := Lib.hid hb
  have HLN := Lib.hid ha.len
  have hn5 : (n : Int) ≤ 5000 := by omega
  clear ha hb
  go_enter Tryz.func27, Tryz.ntmps27
  go_wp2
  go_loopw [5] (fun s5 wr => ∃ k : Nat, k ≤ n ∧ s5 = .int .i64 k ∧ Below w.heap.size w wr) (fun s5 _ => n - (intOf s5).toNat)
  case atStart => exact ⟨0, Nat.zero_le _, rfl, Below.refl _ _⟩
  case round =>
    obtain ⟨k, hk, rfl, hbl⟩ := hrel
    by_cases hlt : k < n
    · have i0 : (0 : Int) ≤ (k : Int) := by omega
      have i1 : (k : Int) < (n : Int) := by omega
      have hkl : k < l.length := by rw [HLN.out]; exact hlt
      obtain ⟨p, rfl, hp⟩ := (HA.out.below hbl).at k hkl
      obtain ⟨q, rfl, hq⟩ := (HB.out.below hbl).at k hkl
      have HBL := Lib.hid hbl
      obtain ⟨z, hz⟩ : ∃ z, z = l[k] := ⟨_, rfl⟩
      rw [← hz] at hp hq
      clear hbl hz
      go_wp2
      go_quiet (fail)
      go_wp2
      exact ⟨⟨k + 1, by omega, by go_num, below_drewN HBL.out nq⟩, by simp [intOf]; omega⟩
    · obtain rfl : k = n := by omega
      have HBL := Lib.hid hbl
      clear hbl
      go_wp2
      go_ret
      exact ⟨rfl, HBL.out⟩
section
variable [Inhabited AvT]
theorem NwS.rfd {B m np : Nat} {w : World} {vS vN : Value} {LS LN : List Value} (h : NwS B w m np np vS vN LS LN) (h8 : 8 ≤ np) (h4 : np ≤ 4096) : RfD B w m np (dv0 np) := by
  obtain ⟨gn, cn, hvN, hBg, hgl, hrv, hcn⟩ := h.now.pos (by omega)
  have hrow : ∃ C : Array Value, w.heap[gn]? = some (.cells C 38 (0, 0)) ∧ C.size = cn ∧ cn ≤ maxLen ∧ C.toList.take np = LN := by
    rcases h.now.2 with ⟨e, -⟩ | ⟨g', cap', cur, e, -, hg, -, hm, hcs, ht⟩
    · rw [hvN] at e; cases e
    · rw [hvN] at e
      cases e
      exact ⟨cur, hg, by simpa using hcs, hm, by simpa using ht⟩
  obtain ⟨C, hC, hCs, hcm, hCt⟩ := hrow
  refine ⟨vS, gn, cn, .slice none 0 0, none, 0, 0, 0, [], C, ?_, ⟨h.low, hBg⟩, hC, ⟨by omega, hcn, hcm⟩, fun i hi => ?_, OV.nil _ _ _ _, ⟨Rd.nil _ _, ⟨Nat.le_refl _, by unfold maxLen; omega⟩, fun h => by omega⟩, ⟨⟨Nat.le_refl _, Nat.le_refl _⟩, ⟨h8, h4⟩, by show 0 ≤ 1000000; omega, ⟨by show (-1 : Int) ≤ -1; omega, by show (-1 : Int) ≤ _; omega⟩, dv0_img np⟩, h.avs⟩
  · have h1 := h.dev
    rw [hvN] at h1
    exact h1
  · have hLl : LN.length = np := by have := h.now.1; omega
    have hget : C[i]? = some (LN[i]'(by omega)) := by
      have h5 : (C.toList.take np)[i]? = LN[i]? := by rw [hCt]
      rw [List.getElem?_take, if_pos hi] at h5
      rw [← Array.getElem?_toList, h5, List.getElem?_eq_getElem (by omega)]
    obtain ⟨a, c, e, hr⟩ := h.pgs (LN[i]'(by omega)) (List.getElem_mem _)
    refine ⟨a, c, by rw [hget, e], ?_⟩
    have e2 : P.pgD (dv0 np).img i = zpR := by
      unfold P.pgD zpR
      show ((List.replicate (np * 256) (0 : UInt8)).drop (256 * i)).take 256 = _
      rw [List.drop_replicate, List.take_replicate]
      congr 1
      omega
    rw [e2]
    exact hr
end
end Go.Proofs.YtocepcibcapfbaaGreat
