/- The pool: Flush, Evict: the calls. -/
import Derived.Test.YtocepcibcapfbaaGreatJ41
namespace Go.Proofs.YtocepcibcapfbaaGreat
set_option linter.unusedVariables false
set_option linter.unusedSimpArgs false
set_option linter.unusedSectionVars false
open Go.RowKit Go.Maps
variable [Inhabited AvT]
variable {B o c : Nat} {w : World} {p d np N : Nat} {x : P.Po}

theorem flush1_en (args : Array Value) (w : World) : (callFunc 57 args).run Tryz.prog w = .ok (.enter 57 args) w :=
  enter_of Tryz.func57 (by kernel_rfl) (by kernel_rfl) args w
theorem evict1_en (args : Array Value) (w : World) : (callFunc 60 args).run Tryz.prog w = .ok (.enter 60 args) w :=
  enter_of Tryz.func60 (by kernel_rfl) (by kernel_rfl) args w
theorem pflush_any (h : PoIs B o c w p d np N x) (hop : x.d.ops < 990000) : Calls Tryz.prog 20 #[.pointer (some ⟨p, 0, none⟩)] w (OpE B o c p d np N (P.flushP (x.dirt np) x) (P.flushE (x.dirt np) x) w) := by
  have hmf : ∀ (fn : Fn) (first cap : Array Value) (w : World), (Instr.makeFunc fn first cap).run Tryz.prog w = .ok (.func fn first cap) w := fun _ _ _ _ => rfl
  obtain ⟨wb, hwb⟩ : ∃ wb, wb = w.alloc (.cells #[.pointer (some ⟨p, 0, none⟩)] 32) := ⟨_, rfl⟩
  have hb : Below w.heap.size w wb := by rw [hwb]; exact (Below.refl _ w).alloc (Nat.le_refl _) _
  have k0 : wb.heap[w.heap.size]? = some (.cells #[.pointer (some ⟨p, 0, none⟩)] 32 (0, 0)) := by rw [hwb]; exact alloc_new _ _ _ rfl
  have HT := Lib.hid (tryop (h.below hb) _ #[.pointer (some ⟨w.heap.size, 0, none⟩)] flush1_en (fun w1 hw1 hP => flush1_any hP hop w.heap.size ((hw1.block _ (lt_of_block k0)).trans k0)))
  have HB := Lib.hid hb
  clear h hb k0 hop
  go_enter Tryz.func20, Tryz.ntmps20
  go_wp2_with fail
  rw [← hwb]
  clear hwb
  refine HT.out.mono ?_
  rintro e w2 ⟨rfl, hV⟩
  have HF := Lib.hid (show OpE B o c p d np N (P.flushP (x.dirt np) x) (P.flushE (x.dirt np) x) w (.returned (.int .i64 (P.flushE (x.dirt np) x))) w2 from ⟨rfl, hV.pre HB.out⟩)
  generalize P.flushE (x.dirt np) x = E at *
  clear hV
  go_wp2
  go_ret
  exact HF.out
/-- After i have left. -/
def EvR (B o c : Nat) (p d np N : Nat) (x : P.Po) (K : Nat) (w : World) (i : Nat) (wr : World) : Prop :=
  ∃ y, PoV B o c w p d np N y wr ∧ P.evE K x = P.evE (K - i) y ∧ P.evP K x = P.evP (K - i) y ∧ y.d.ops + y.l.length ≤ x.d.ops + x.l.length
theorem ev_succ {K i : Nat} (h : i < K) (y : P.Po) : P.evE (K - i) y = (if y.oneE = 0 then P.evE (K - (i + 1)) y.oneP else if y.oneE = 6 then 0 else y.oneE) ∧ P.evP (K - i) y = (if y.oneE = 0 then P.evP (K - (i + 1)) y.oneP else y.oneP) := by
  rw [show K - i = (K - (i + 1)) + 1 by omega]
  exact ⟨rfl, rfl⟩
set_option maxRecDepth 100000 in
set_option maxHeartbeats 3200000 in
theorem evict1_any (h : PoIs B o c w p d np N x) (n : Int) (hn : n ≤ 1000000000) (hop : x.d.ops < 990000) (bp bn : Nat) (kp : w.heap[bp]? = some (.cells #[.pointer (some ⟨p, 0, none⟩)] 32 (0, 0))) (kn : w.heap[bn]? = some (.cells #[.int .i64 n] 3 (0, 0))) (hbn : bn ≠ o) :
    Calls Tryz.prog 60 #[.pointer (some ⟨bn, 0, none⟩), .pointer (some ⟨bp, 0, none⟩)] w (DoE B o c p d np N (P.evP n.toNat x) (P.evE n.toNat x) w) := by
  have hbo := h.ne kp (by decide) (by decide)
  have HBO := Lib.hid hbo
  have HBN := Lib.hid hbn
  have HKP := Lib.hid kp
  have HKN := Lib.hid kn
  have HOP := Lib.hid hop
  have hxl : x.l.length ≤ 4096 := by
    obtain ⟨⟨mb, nn, F, vo, V, hs⟩, hok⟩ := h
    have := hok.2.2.1
    have := hs.big.2.1
    omega
  have HXL := Lib.hid hxl
  have HN := Lib.hid hn
  obtain ⟨K, hK⟩ : ∃ K, K = n.toNat := ⟨_, rfl⟩
  have HK := Lib.hid hK
  rw [← hK]
  have HST := Lib.hid (show EvR B o c p d np N x K w 0 w from ⟨x, h.self (Below.refl _ _), rfl, rfl, Nat.le_refl _⟩)
  clear h hbo hbn kp kn hop hxl hn hK
  go_enter Tryz.func60, Tryz.ntmps60
  go_wp2
  go_loopw [2] (fun s2 wr => ∃ i : Nat, (i ≤ K) ∧ s2 = .int .i64 i ∧ EvR B o c p d np N x K w i wr) (fun s2 _ => K - (ivOf s2).toNat)
  case atStart => exact ⟨0, by omega, rfl, HST.out⟩
  case round =>
    obtain ⟨i, hi, rfl, y, hV, hE, hP, hops⟩ := hrel
    have HV := Lib.hid hV
    obtain ⟨o', ho', hPy, hT'⟩ := hV
    have gp := cell_blk (hT'.box HKP.out HBO.out (by unfold poT devT; decide))
    have gn := cell_blk (hT'.box HKN.out HBN.out (by unfold poT devT; decide))
    have HPO := Lib.hid (And.intro hE (And.intro hP hops))
    by_cases hlt : i < K
    · have i1 : (i : Int) < n := by have := HK.out; omega
      have i0 : (0 : Int) ≤ (i : Int) := by omega
      have i2 : (i : Int) < 1000000000 := by have := HN.out; omega
      have HL := Lib.hid (pleave_any hPy (by have := HOP.out; have := HXL.out; omega))
      have hev := ev_succ hlt y
      have HEV := Lib.hid hev
      have HO' := Lib.hid ho'
      have HT' := Lib.hid hT'
      have HPY := Lib.hid hPy
      clear hE hP hops ho' hPy hT' hev
      go_wp2_with fail
      refine HL.out.mono ?_
      rintro e w2 (⟨h6, rfl, hb⟩ | ⟨h0, rfl, hV2⟩ | ⟨h7, rfl, hV2⟩)
      · have HF := Lib.hid (show DoE B o c p d np N (P.evP K x) (P.evE K x) w (.returned (.tuple #[])) w2 from by
          rw [HPO.out.1, HPO.out.2.1, HEV.out.1, HEV.out.2, h6, if_neg (by decide), if_neg (by decide), if_pos rfl, oneE_none h6]
          exact ⟨PoV.then HO'.out HT'.out (HPY.out.self hb), .inl ⟨rfl, rfl⟩⟩)
        clear h6 hb
        go_wp2
        go_end0
        exact HF.out
      · have HN2 := Lib.hid (show EvR B o c p d np N x K w (i + 1) w2 from by
          refine ⟨y.oneP, PoV.then HO'.out HT'.out hV2, ?_, ?_, ?_⟩
          · rw [HPO.out.1, HEV.out.1, if_pos h0]
          · rw [HPO.out.2.1, HEV.out.2, if_pos h0]
          · have h1 := P.one_room HPY.out.2 h0
            have h2 := P.one_ops y
            have h3 := HPO.out.2.2
            omega)
        clear h0 hV2
        go_wp2
        exact ⟨⟨i + 1, by omega, by go_num, HN2.out⟩, by simp [ivOf]; omega⟩
      · have HF := Lib.hid (show DoE B o c p d np N (P.evP K x) (P.evE K x) w (panE 7) w2 from by
          rw [HPO.out.1, HPO.out.2.1, HEV.out.1, HEV.out.2, h7, if_neg (by decide), if_neg (by decide), if_neg (by decide)]
          exact ⟨PoV.then HO'.out HT'.out hV2, .inr ⟨by decide, rfl⟩⟩)
        clear h7 hV2
        go_wp2
        exact ⟨rfl, HF.out⟩
    · obtain rfl : i = K := by omega
      have i1 : ¬ (i : Int) < n := by have := HK.out; omega
      have i3 : n ≤ (i : Int) := by omega
      have HF := Lib.hid (show DoE B o c p d np N (P.evP i x) (P.evE i x) w (.returned (.tuple #[])) wr from by
        rw [hE, hP, Nat.sub_self]
        exact ⟨HV.out, .inl ⟨rfl, rfl⟩⟩)
      clear hE hP hops ho' hPy hT'
      go_wp2
      go_end0
      exact HF.out
theorem pevict_any (h : PoIs B o c w p d np N x) (n : Int) (hn : n ≤ 1000000000) (hop : x.d.ops < 990000) : Calls Tryz.prog 22 #[.pointer (some ⟨p, 0, none⟩), .int .i64 n] w (OpE B o c p d np N (P.evP n.toNat x) (P.evE n.toNat x) w) := by
  have hmf : ∀ (fn : Fn) (first cap : Array Value) (w : World), (Instr.makeFunc fn first cap).run Tryz.prog w = .ok (.func fn first cap) w := fun _ _ _ _ => rfl
  obtain ⟨wb, hwb⟩ : ∃ wb, wb = (w.alloc (.cells #[.pointer (some ⟨p, 0, none⟩)] 32)).alloc (.cells #[.int .i64 n] 3) := ⟨_, rfl⟩
  have hb : Below w.heap.size w wb := by rw [hwb]; exact ((Below.refl _ w).alloc (Nat.le_refl _) _).alloc (by simp) _
  have k0 : wb.heap[w.heap.size]? = some (.cells #[.pointer (some ⟨p, 0, none⟩)] 32 (0, 0)) := by rw [hwb]; exact alloc_old (alloc_new _ _ _ rfl) _
  have k1 : wb.heap[w.heap.size + 1]? = some (.cells #[.int .i64 n] 3 (0, 0)) := by rw [hwb]; exact alloc_new _ _ _ (by simp)
  have hbo : w.heap.size + 1 ≠ o := by have := h.lt; omega
  have HT := Lib.hid (tryop (h.below hb) _ #[.pointer (some ⟨w.heap.size + 1, 0, none⟩), .pointer (some ⟨w.heap.size, 0, none⟩)] evict1_en (fun w1 hw1 hP => evict1_any hP n hn hop w.heap.size (w.heap.size + 1) ((hw1.block _ (lt_of_block k0)).trans k0) ((hw1.block _ (lt_of_block k1)).trans k1) hbo))
  have HB := Lib.hid hb
  clear h hb k0 k1 hop hn hbo
  go_enter Tryz.func22, Tryz.ntmps22
  go_wp2_with fail
  rw [← hwb]
  clear hwb
  refine HT.out.mono ?_
  rintro e w2 ⟨rfl, hV⟩
  have HF := Lib.hid (show OpE B o c p d np N (P.evP n.toNat x) (P.evE n.toNat x) w (.returned (.int .i64 (P.evE n.toNat x))) w2 from ⟨rfl, hV.pre HB.out⟩)
  generalize P.evE n.toNat x = E at *
  clear hV
  go_wp2
  go_ret
  exact HF.out
end Go.Proofs.YtocepcibcapfbaaGreat
