/- The walks of chapter 7: noughts. -/
import Derived.Test.YtnjpaanjgbfbaaaGreatJ15
namespace Go.Proofs.YtnjpaanjgbfbaaaGreat
set_option linter.unusedVariables false
set_option linter.unusedSimpArgs false
open Go.RowKit

def nought (l : List UInt8) : Bool := l.all (· == 0)
theorem nought_take {l : List UInt8} {j : Nat} (h : nought (l.take j) = true) (hj : j < l.length) (hz : l[j] = 0) : nought (l.take (j + 1)) = true := by
  rw [take_snoc l j hj]
  unfold nought at *
  rw [List.all_append, h]
  simp [hz]
theorem nought_not {l : List UInt8} {j : Nat} (hj : j < l.length) (hz : l[j] ≠ 0) : nought l = false := by
  unfold nought
  rw [List.all_eq_false]
  exact ⟨l[j], List.getElem_mem hj, by simpa using hz⟩
set_option maxRecDepth 100000 in
set_option maxHeartbeats 400000 in
theorem noughts_any (a : Option Addr) (len cap : Nat) (l : List UInt8) (w : World) (hl : Rd w a len l) :
    Calls Tryz.prog 75 #[.slice a len cap] w fun e w' => e = .returned (.bool (nought l)) ∧ w' = w := by
  have la1 : l.length ≤ len := by have := hl.1; omega
  have la2 : len ≤ l.length := by have := hl.1; omega
  have hm := hl.2.1
  unfold maxLen at hm
  have HL := Lib.hid hl
  clear hl
  go_enter Tryz.func75, Tryz.ntmps75
  go_wp2
  go_loopw [7] (fun i wr => ∃ j : Nat, j ≤ len ∧ i = .int .i64 j ∧ nought (l.take j) = true ∧ wr = w) (fun i _ => len - (intOf i).toNat)
  case atStart => exact ⟨0, by omega, rfl, by simp [nought], rfl⟩
  case round =>
    obtain ⟨j, hj, rfl, hpre, rfl⟩ := hrel
    have HP := Lib.hid hpre
    clear hpre
    by_cases hlt : j < len
    · obtain ⟨p, rfl, hc0⟩ := HL.out.at j (by omega)
      unfold bv at hc0
      by_cases he : l[j] = 0
      · have ht : ((l[j].toNat : Int) != 0) = false := by simp [he]
        have HN : Hid (nought (l.take (j + 1)) = true) := Lib.hid (nought_take HP.out (by omega) he)
        clear he
        go_wp2
        exact ⟨⟨j + 1, by omega, by go_num, HN.out, by first | trivial | rfl⟩, by simp [intOf]; omega⟩
      · have ht : ((l[j].toNat : Int) != 0) = true := by
          simp only [bne_iff_ne, ne_eq]
          intro e
          exact he (UInt8.toNat_inj.1 (by simpa using e))
        have HV := Lib.hid (nought_not (by omega) he)
        clear he
        go_wp2
        go_ret
        exact ⟨by rw [HV.out]; rfl, rfl⟩
    · obtain rfl : j = len := by omega
      have hv : nought l = true := by
        have e := HP.out
        rwa [List.take_of_length_le (by omega)] at e
      have HV := Lib.hid hv
      clear hv
      go_wp2
      go_ret
      exact ⟨by rw [HV.out]; rfl, rfl⟩

theorem drop_take_snoc (l : List UInt8) (i j : Nat) (h : i + j < l.length) : (l.drop i).take (j + 1) = (l.drop i).take j ++ [l[i + j]] := by
  rw [take_snoc _ j (by simp; omega)]
  simp
set_option maxRecDepth 100000 in
set_option maxHeartbeats 400000 in
theorem rnoughts_any (a : Option Addr) (len cap : Nat) (l : List UInt8) (i : Nat) (w : World) (hl : Rd w a len l) (hi : i ≤ len) :
    Calls Tryz.prog 66 #[.slice a len cap, .int .i64 i] w fun e w' => e = .returned (.bool (nought (l.drop i))) ∧ w' = w := by
  have la1 : l.length ≤ len := by have := hl.1; omega
  have la2 : len ≤ l.length := by have := hl.1; omega
  have hm := hl.2.1
  unfold maxLen at hm
  have HL := Lib.hid hl
  clear hl
  go_enter Tryz.func66, Tryz.ntmps66
  go_wp2
  go_loopw [5] (fun x wr => ∃ j : Nat, i + j ≤ len ∧ x = .int .i64 ((i + j : Nat) : Int) ∧ nought ((l.drop i).take j) = true ∧ wr = w) (fun x _ => len - (intOf x).toNat)
  case atStart => exact ⟨0, by omega, rfl, by simp [nought], rfl⟩
  case round =>
    obtain ⟨j, hj, rfl, hpre, rfl⟩ := hrel
    have HP := Lib.hid hpre
    clear hpre
    by_cases hlt : i + j < len
    · obtain ⟨p, rfl, hc0⟩ := HL.out.at (i + j) (by omega)
      unfold bv at hc0
      by_cases he : l[i + j] = 0
      · have ht : ((l[i + j].toNat : Int) != 0) = false := by simp [he]
        have HN : Hid (nought ((l.drop i).take (j + 1)) = true) := by
          rw [Hid, drop_take_snoc l i j (by omega), he]
          have h := HP.out
          unfold nought at *
          rw [List.all_append, h]
          rfl
        clear he
        obtain ⟨m, hm⟩ : ∃ m, m = i + j := ⟨_, rfl⟩
        go_wp2
        exact ⟨⟨j + 1, by omega, by first | go_num | (simp; omega), HN.out, by first | trivial | rfl⟩, by simp [intOf]; omega⟩
      · have ht : ((l[i + j].toNat : Int) != 0) = true := by
          simp only [bne_iff_ne, ne_eq]
          intro e
          exact he (UInt8.toNat_inj.1 (by simpa using e))
        have HV := Lib.hid (nought_not (l := l.drop i) (j := j) (by simp; omega) (by simpa using he))
        clear he
        go_wp2
        go_ret
        exact ⟨by rw [HV.out]; rfl, rfl⟩
    · have hv : nought (l.drop i) = true := by
        have e := HP.out
        rwa [List.take_of_length_le (by simp; omega)] at e
      have HV := Lib.hid hv
      clear hv
      go_wp2
      go_ret
      exact ⟨by rw [HV.out]; rfl, rfl⟩
end Go.Proofs.YtnjpaanjgbfbaaaGreat
/- The walk of the reference's EncodeSuper. Printed by gen_spd.py. -/
namespace Go.Proofs.YtnjpaanjgbfbaaaGreat
set_option linter.unusedVariables false
set_option linter.unusedSimpArgs false
open Go.RowKit

theorem may_bounds {x : P.Sup} (h : x.chk = 0) : (1 ≤ x.g ∧ x.g ≤ 1152921504606846976) ∧ (0 ≤ x.p ∧ x.p ≤ 4096) ∧ (0 ≤ x.r ∧ x.r ≤ 4096) ∧ (0 ≤ x.h ∧ x.h ≤ 32) ∧ (0 ≤ x.b ∧ x.b ≤ 1048576) ∧
    (0 ≤ x.l ∧ x.l ≤ 1048576) ∧ (0 ≤ x.s ∧ x.s ≤ 4096) ∧ (0 ≤ x.f ∧ x.f ≤ 4096) := by
  rcases x.chk_cases with ⟨h1, _⟩ | ⟨_, h2⟩
  · have := x.may_iff.1 h1
    omega
  · omega
/-- A row of the call's own, under a name. -/
theorem named {w : World} {B : Nat} {v : Value} {l : List UInt8} (h : OB w B v l) (n : Nat) (hn : l.length = n) : ∃ L a cap, L = l ∧ v = .slice a n cap ∧ L.length = n ∧ OB w B (.slice a n cap) L := by
  obtain ⟨a, p, hv, -, -, -, -⟩ := h.form
  subst hn
  subst hv
  exact ⟨l, a, p, rfl, rfl, rfl, h⟩

set_option maxRecDepth 100000 in
set_option maxHeartbeats 6400000 in
theorem renc_ok (x : P.Sup) (w : World) (he : x.chk = 0) :
    Calls Tryz.prog 25 #[supV x] w fun e w' => ∃ v, e = .returned (.tuple #[v, .int .i64 0]) ∧ OB w' w.heap.size v x.page ∧ Below w.heap.size w w' := by
  have hbd := may_bounds he
  have hpg : x.page = P.sealB 1 0 0 x.body := by
    unfold P.Sup.page P.sealB
    rw [if_pos he, if_pos (by rw [x.body_length]; decide)]
    rfl
  have hse : P.sealErr 1 0 0 x.body.length = 0 := by rw [x.body_length]; decide
  have hbl := x.body_length
  rw [hpg]
  clear hpg
  obtain ⟨BL, hBL⟩ : ∃ BL, BL = x.body := ⟨_, rfl⟩
  rw [← hBL] at hse hbl ⊢
  unfold P.Sup.body at hBL
  obtain ⟨g, p, r, h, b, l, s, f⟩ := x
  simp only at hbd hBL
  obtain ⟨g1, p1, r1, h1, b1, l1, s1, f1⟩ := hbd
  have HC := fun w => rchk_any ⟨g, p, r, h, b, l, s, f⟩ w
  rw [he] at HC
  unfold supV at HC ⊢
  simp only at HC ⊢
  have HC := Lib.hid HC
  have HBL := Lib.hid hBL
  have HSE := Lib.hid hse
  clear he hBL hse
  go_enter Tryz.func25, Tryz.ntmps25
  go_wp2_with fail
  refine (HC.out _).mono ?_
  rintro e w0 ⟨rfl, hbZ⟩
  have hB0 := made_below hbZ
  have hbA := below_alloc1 hbZ
  have hlt0 : w.heap.size < w0.heap.size := by have := hbZ.size; simp at this; omega
  have f0 : w0.cell? ⟨w.heap.size, 0, none⟩ = some (.int .i64 g) := cell_blk hB0 0
  have f1' : w0.cell? ⟨w.heap.size, 1, none⟩ = some (.int .i64 p) := cell_blk hB0 1
  have HB0 := Lib.hid hB0
  clear hB0 hbZ
  go_wp2
  go_region_held3 (fun w' => w'.cell? ⟨w.heap.size, 0, none⟩ = some (.int .i64 g) ∧ w'.cell? ⟨w.heap.size, 1, none⟩ = some (.int .i64 p))
    (first
      | go_keep
      | exact ⟨(hb1.cell (p := ⟨w.heap.size, 0, none⟩) hlt0).trans f0, (hb1.cell (p := ⟨w.heap.size, 1, none⟩) hlt0).trans f1'⟩
      | exact ⟨(hb2.cell (p := ⟨w.heap.size, 0, none⟩) (Nat.lt_of_lt_of_le hlt0 hb1.size)).trans ((hb1.cell (p := ⟨w.heap.size, 0, none⟩) hlt0).trans f0), (hb2.cell (p := ⟨w.heap.size, 1, none⟩) (Nat.lt_of_lt_of_le hlt0 hb1.size)).trans ((hb1.cell (p := ⟨w.heap.size, 1, none⟩) hlt0).trans f1')⟩
      | exact ⟨(hb3.cell (p := ⟨w.heap.size, 0, none⟩) hlt0).trans f0, (hb3.cell (p := ⟨w.heap.size, 1, none⟩) hlt0).trans f1'⟩)
    (first
      | (go_at_call_of 40 (Value.int .i64 g); refine (refput_any _ _ _ (by omega) (by omega) (by omega) (by omega) (by simp; omega)).mono ?_; rintro e w1 ⟨v1, rfl, hown1, hb1⟩; obtain ⟨a1, p1', hv1, hr1, -, -, -⟩ := hown1.form; subst hv1)
      | (go_at_call_of 40 (Value.int .i64 p); refine (refput_any _ _ _ (by omega) (by omega) (by omega) (by omega) (by simp; omega)).mono ?_; rintro e w2 ⟨v2, rfl, hown2, hb2⟩; obtain ⟨a2, p2, hv2, hr2, -, -, -⟩ := hown2.form; subst hv2)
      | (refine step_app _ rfl _ _ rfl w0.heap.size _ _ rfl (hown1.below hb2) _ _ _ _ rfl hr2 (by simp [P.be_length]) (by exact Nat.le_trans hb1.size hb2.size) ?_; intro v3 w3 hown3 hg3 hat3; have hb3 : Below w0.heap.size w0 w3 := (hown1.below hb2).grown ((below_of_drew hb1).trans (hb2.mono hb1.size)) (Nat.le_trans hb1.size hb2.size) hg3; obtain ⟨a3, p3, hv3, -, -, -, -⟩ := hown3.form; subst hv3))
  obtain ⟨L3, a3', p3', hL3, hv3, hl3, ho3⟩ := named (n := 12) (show OB w3 w0.heap.size _ (P.be 8 g.toNat ++ P.be 4 p.toNat) from hown3) (by simp [P.be_length])
  simp only [Value.slice.injEq] at hv3
  obtain ⟨e1, -, e3⟩ := hv3
  subst e1
  subst e3
  have HO3 := Lib.hid ho3
  have HL3 := Lib.hid hL3
  have hs3 := hb3.size
  rw [P.be_length, P.be_length]
  clear hown3 hown1 hown2 hg3 hat3 hr1 hr2 ho3 hb1 hb2 f0 f1' hL3
  have hB3 : w3.heap[w.heap.size]? = _ := (hb3.block _ hlt0).trans HB0.out
  have g3 := cell_blk hB3
  go_wp2_with fail
  refine (refput_any 4 r _ (by omega) (by omega) (by omega) (by omega) (by simp; omega)).mono ?_
  rintro e w4 ⟨v4, rfl, hown4, hb4⟩
  have hb4' := below_then hb3 hb4 hs3
  have hs4 := hb4'.size
  obtain ⟨a4, p4, hv4, hr4, -, -, -⟩ := hown4.form
  subst hv4
  have HR4 := Lib.hid hr4
  clear hown4 hr4 g3
  go_wp2_with (at_builtin; refine wpList_app _ rfl _ _ rfl w0.heap.size _ _ rfl (HO3.out.below hb4) _ _ _ _ rfl HR4.out ?c1 hs4 ?_)
  case c1 => simp [P.be_length, hl3]
  intro v5 w5 hown5 hg5 hat5
  have hb5 : Below w0.heap.size w0 w5 := (HO3.out.below hb4).grown hb4' hs4 hg5
  have hs5 := hb5.size
  obtain ⟨L5, a5, p5, hL5, hv5, hl5, ho5⟩ := named (n := 16) (show OB w5 w0.heap.size _ (L3 ++ P.be 4 r.toNat) from hown5) (by simp [P.be_length, hl3])
  subst hv5
  have HO5 := Lib.hid ho5
  have HL5 := Lib.hid hL5
  clear ho5 hown5 hg5 hat5 hL5 hb4 hb4' HR4 HO3 hb3 hB3
  have hB5 : w5.heap[w.heap.size]? = _ := (hb5.block _ hlt0).trans HB0.out
  have g5 := cell_blk hB5
  go_wp2_with fail
  refine (refput_any 2 h _ (by omega) (by omega) (by omega) (by omega) (by simp; omega)).mono ?_
  rintro e w6 ⟨v6, rfl, hown6, hb6⟩
  have hb6' := below_then hb5 hb6 hs5
  have hs6 := hb6'.size
  obtain ⟨a6, p6, hv6, hr6, -, -, -⟩ := hown6.form
  subst hv6
  have HR6 := Lib.hid hr6
  clear hown6 hr6 g5
  go_wp2_with (at_builtin; refine wpList_app _ rfl _ _ rfl w0.heap.size _ _ rfl (HO5.out.below hb6) _ _ _ _ rfl HR6.out ?c1 hs6 ?_)
  case c1 => simp [P.be_length, hl5]
  intro v7 w7 hown7 hg7 hat7
  have hb7 : Below w0.heap.size w0 w7 := (HO5.out.below hb6).grown hb6' hs6 hg7
  have hs7 := hb7.size
  obtain ⟨L7, a7, p7, hL7, hv7, hl7, ho7⟩ := named (n := 18) (show OB w7 w0.heap.size _ (L5 ++ P.be 2 h.toNat) from hown7) (by simp [P.be_length, hl5])
  subst hv7
  have HO7 := Lib.hid ho7
  have HL7 := Lib.hid hL7
  clear ho7 hown7 hg7 hat7 hL7 hb6 hb6' HR6 HO5 hb5 hB5
  have hB7 : w7.heap[w.heap.size]? = _ := (hb7.block _ hlt0).trans HB0.out
  have g7 := cell_blk hB7
  go_wp2_with fail
  refine (refput_any 4 b _ (by omega) (by omega) (by omega) (by omega) (by simp; omega)).mono ?_
  rintro e w8 ⟨v8, rfl, hown8, hb8⟩
  have hb8' := below_then hb7 hb8 hs7
  have hs8 := hb8'.size
  obtain ⟨a8, p8, hv8, hr8, -, -, -⟩ := hown8.form
  subst hv8
  have HR8 := Lib.hid hr8
  clear hown8 hr8 g7
  go_wp2_with (at_builtin; refine wpList_app _ rfl _ _ rfl w0.heap.size _ _ rfl (HO7.out.below hb8) _ _ _ _ rfl HR8.out ?c1 hs8 ?_)
  case c1 => simp [P.be_length, hl7]
  intro v9 w9 hown9 hg9 hat9
  have hb9 : Below w0.heap.size w0 w9 := (HO7.out.below hb8).grown hb8' hs8 hg9
  have hs9 := hb9.size
  obtain ⟨L9, a9, p9, hL9, hv9, hl9, ho9⟩ := named (n := 22) (show OB w9 w0.heap.size _ (L7 ++ P.be 4 b.toNat) from hown9) (by simp [P.be_length, hl7])
  subst hv9
  have HO9 := Lib.hid ho9
  have HL9 := Lib.hid hL9
  clear ho9 hown9 hg9 hat9 hL9 hb8 hb8' HR8 HO7 hb7 hB7
  have hB9 : w9.heap[w.heap.size]? = _ := (hb9.block _ hlt0).trans HB0.out
  have g9 := cell_blk hB9
  go_wp2_with fail
  refine (refput_any 4 l _ (by omega) (by omega) (by omega) (by omega) (by simp; omega)).mono ?_
  rintro e w10 ⟨v10, rfl, hown10, hb10⟩
  have hb10' := below_then hb9 hb10 hs9
  have hs10 := hb10'.size
  obtain ⟨a10, p10, hv10, hr10, -, -, -⟩ := hown10.form
  subst hv10
  have HR10 := Lib.hid hr10
  clear hown10 hr10 g9
  go_wp2_with (at_builtin; refine wpList_app _ rfl _ _ rfl w0.heap.size _ _ rfl (HO9.out.below hb10) _ _ _ _ rfl HR10.out ?c1 hs10 ?_)
  case c1 => simp [P.be_length, hl9]
  intro v11 w11 hown11 hg11 hat11
  have hb11 : Below w0.heap.size w0 w11 := (HO9.out.below hb10).grown hb10' hs10 hg11
  have hs11 := hb11.size
  obtain ⟨L11, a11, p11, hL11, hv11, hl11, ho11⟩ := named (n := 26) (show OB w11 w0.heap.size _ (L9 ++ P.be 4 l.toNat) from hown11) (by simp [P.be_length, hl9])
  subst hv11
  have HO11 := Lib.hid ho11
  have HL11 := Lib.hid hL11
  clear ho11 hown11 hg11 hat11 hL11 hb10 hb10' HR10 HO9 hb9 hB9
  have hB11 : w11.heap[w.heap.size]? = _ := (hb11.block _ hlt0).trans HB0.out
  have g11 := cell_blk hB11
  go_wp2_with fail
  refine (refput_any 4 s _ (by omega) (by omega) (by omega) (by omega) (by simp; omega)).mono ?_
  rintro e w12 ⟨v12, rfl, hown12, hb12⟩
  have hb12' := below_then hb11 hb12 hs11
  have hs12 := hb12'.size
  obtain ⟨a12, p12, hv12, hr12, -, -, -⟩ := hown12.form
  subst hv12
  have HR12 := Lib.hid hr12
  clear hown12 hr12 g11
  go_wp2_with (at_builtin; refine wpList_app _ rfl _ _ rfl w0.heap.size _ _ rfl (HO11.out.below hb12) _ _ _ _ rfl HR12.out ?c1 hs12 ?_)
  case c1 => simp [P.be_length, hl11]
  intro v13 w13 hown13 hg13 hat13
  have hb13 : Below w0.heap.size w0 w13 := (HO11.out.below hb12).grown hb12' hs12 hg13
  have hs13 := hb13.size
  obtain ⟨L13, a13, p13, hL13, hv13, hl13, ho13⟩ := named (n := 30) (show OB w13 w0.heap.size _ (L11 ++ P.be 4 s.toNat) from hown13) (by simp [P.be_length, hl11])
  subst hv13
  have HO13 := Lib.hid ho13
  have HL13 := Lib.hid hL13
  clear ho13 hown13 hg13 hat13 hL13 hb12 hb12' HR12 HO11 hb11 hB11
  have hB13 : w13.heap[w.heap.size]? = _ := (hb13.block _ hlt0).trans HB0.out
  have g13 := cell_blk hB13
  go_wp2_with fail
  refine (refput_any 4 f _ (by omega) (by omega) (by omega) (by omega) (by simp; omega)).mono ?_
  rintro e w14 ⟨v14, rfl, hown14, hb14⟩
  have hb14' := below_then hb13 hb14 hs13
  have hs14 := hb14'.size
  obtain ⟨a14, p14, hv14, hr14, -, -, -⟩ := hown14.form
  subst hv14
  have HR14 := Lib.hid hr14
  clear hown14 hr14 g13
  go_wp2_with (at_builtin; refine wpList_app _ rfl _ _ rfl w0.heap.size _ _ rfl (HO13.out.below hb14) _ _ _ _ rfl HR14.out ?c1 hs14 ?_)
  case c1 => simp [P.be_length, hl13]
  intro v15 w15 hown15 hg15 hat15
  have hb15 : Below w0.heap.size w0 w15 := (HO13.out.below hb14).grown hb14' hs14 hg15
  have hs15 := hb15.size
  obtain ⟨L15, a15, p15, hL15, hv15, hl15, ho15⟩ := named (n := 34) (show OB w15 w0.heap.size _ (L13 ++ P.be 4 f.toNat) from hown15) (by simp [P.be_length, hl13])
  subst hv15
  have HO15 := Lib.hid ho15
  have HL15 := Lib.hid hL15
  clear ho15 hown15 hg15 hat15 hL15 hb14 hb14' HR14 HO13 hb13 hB13
  have hLB : L15 = BL := by rw [HBL.out, HL15.out, HL13.out, HL11.out, HL9.out, HL7.out, HL5.out, HL3.out]
  have ho := HO15.out
  rw [hLB] at ho
  obtain ⟨av, pv, hva, hra, -, -, -⟩ := ho.form
  simp only [Value.slice.injEq] at hva
  obtain ⟨q1, q2, q3⟩ := hva
  subst q1
  subst q3
  rw [hbl] at hra
  have HR := Lib.hid hra
  clear ho hra HO15 hLB q2
  go_wp2_with fail
  refine (rseal_fun 1 0 0 _ _ _ BL _ HR.out).mono ?_
  rintro e wz ⟨vz, rfl, hownz, hbz⟩
  rw [HSE.out]
  obtain ⟨az, pz, hvz, -, -, -, -⟩ := hownz.form
  subst hvz
  have HOZ := Lib.hid (hownz.mono (Nat.le_trans hbA.size hs15))
  have hbz' := below_then (hbA.trans (hb15.mono hbA.size)) hbz (Nat.le_trans hbA.size hs15)
  clear hownz
  go_wp2
  go_ret2
  exact ⟨_, rfl, HOZ.out, hbz'⟩
end Go.Proofs.YtnjpaanjgbfbaaaGreat
