/- The walks of the reference's put and get. -/
import Derived.Test.YtnjpaanjgbfbaaaGreatJ07
namespace Go.Proofs.YtnjpaanjgbfbaaaGreat
set_option linter.unusedVariables false
set_option linter.unusedSimpArgs false
open Go.RowKit

theorem put_zeros (n x : Int) (h1 : 1 ≤ n) (h2 : n ≤ 8) (h3 : 0 ≤ x) (h4 : x ≤ 4611686018427387904) (h5 : x < 256 ^ n.toNat) :
    P.put (List.replicate n.toNat 0) 0 n x = some (P.be n.toNat x.toNat) := by
  have hb : P.lies (List.replicate n.toNat (0 : UInt8)).length 0 n = true := by unfold P.lies; apply decide_eq_true; simp; omega
  unfold P.put
  rw [if_pos ⟨hb, h3, h4, h5⟩]
  simp

theorem OB_made {w w' : World} {B g n : Nat} (h : w'.ownsRow B 5 1 (.slice (some ⟨g, 0, none⟩) n n) n (madeCells #[Value.int .u8 0] n).toList) :
    OB w' B (.slice (some ⟨g, 0, none⟩) n n) (List.replicate n 0) := by
  unfold OB
  have e : (madeCells #[Value.int .u8 0] n).toList = bvs (List.replicate n 0) := by
    rw [toList_madeCells_one]
    simp [bvs, bv]
  rw [e] at h
  simpa using h

set_option maxRecDepth 100000 in
set_option maxHeartbeats 400000 in
theorem refput_any (n x : Int) (w : World) (h1 : 1 ≤ n) (h2 : n ≤ 8) (h3 : 0 ≤ x) (h4 : x ≤ 4611686018427387904) (h5 : x < 256 ^ n.toNat) :
    Calls Tryz.prog 40 #[.int .i64 n, .int .i64 x] w fun e w' => ∃ v, e = .returned v ∧ OB w' w.heap.size v (P.be n.toNat x.toNat) ∧ Below w.heap.size w w' := by
  have HP := Lib.hid (put_zeros n x h1 h2 h3 h4 h5)
  obtain ⟨i, hi, hz0, hz1, hz2⟩ := info_parts u8_info
  obtain ⟨n, rfl⟩ := Int.eq_ofNat_of_zero_le (Int.le_trans (by omega) h1)
  rw [Int.toNat_natCast] at HP ⊢
  clear h5
  go_enter Tryz.func40, Tryz.ntmps40
  go_wp2_with (at_make; refine wpList_make_full _ rfl _ _ 22 rfl w.heap.size 5 i _ 1 Tryz.underlying22 hi hz0 hz1 _ _ _ _ n rfl rfl rfl rfl ?c1 ?c2 (Nat.le_refl _) ?_)
  case c1 => rw [hz2]; omega
  case c2 => unfold maxLen; omega
  intro w1 hown1 hg1
  have hb1 : Below w.heap.size w w1 := (Below.refl _ w).grown hg1 (Nat.le_refl _) (by simp)
  have ho := OB_made (w := w) hown1
  obtain ⟨a1, c1, hv, hr1, -, -, -⟩ := ho.form
  simp only [Value.slice.injEq] at hv
  obtain ⟨e1, -, e3⟩ := hv
  subst e1
  subst e3
  rw [List.length_replicate] at hr1
  have HR := Lib.hid hr1
  clear hown1 hg1 ho hr1
  go_wp2_with fail
  refine (rput_good _ _ _ (List.replicate n 0) _ _ _ _ _ HR.out HP.out (by omega)).mono ?_
  rintro e w2 ⟨v, rfl, hown, hb2⟩
  obtain ⟨a2, c2, hv, -, -, -, -⟩ := hown.form
  subst hv
  have HO := Lib.hid (hown.mono hb1.size)
  clear hown
  go_wp2
  go_ret
  exact ⟨_, rfl, HO.out, below_then hb1 hb2 hb1.size⟩

set_option maxRecDepth 100000 in
set_option maxHeartbeats 400000 in
theorem refget_any (a : Option Addr) (len cap : Nat) (l : List UInt8) (at_ n : Int) (w : World) (hr : Rd w a len l) (hat : -9223372036854775808 ≤ at_ ∧ at_ ≤ 9223372036854775807) :
    Calls Tryz.prog 65 #[.slice a len cap, .int .i64 at_, .int .i64 n] w fun e w' => e = .returned (.int .i64 (P.get l at_ n).1) ∧ w = w' := by
  have HR := Lib.hid hr
  clear hr
  go_enter Tryz.func65, Tryz.ntmps65
  go_wp2_with fail
  refine (rget_any _ _ _ l _ _ _ HR.out hat).mono ?_
  rintro e w1 ⟨rfl, rfl⟩
  go_wp2
  go_ret
  exact ⟨rfl, rfl⟩
end Go.Proofs.YtnjpaanjgbfbaaaGreat
/- The walk of the reference's Seal. -/
namespace Go.Proofs.YtnjpaanjgbfbaaaGreat
set_option linter.unusedVariables false
set_option linter.unusedSimpArgs false
open Go.RowKit

set_option maxRecDepth 100000 in
set_option maxHeartbeats 800000 in
theorem rseal_bad (k l c : Int) (a : Option Addr) (n m : Nat) (w : World) (hn : (n : Int) ≤ 9223372036854775807) (he : P.sealErr k l c n ≠ 0) :
    Calls Tryz.prog 35 #[.agg #[.int .i64 k, .int .i64 l, .int .i64 c, .slice a n m]] w fun e w' =>
      e = .returned (.tuple #[.slice none 0 0, .int .i64 (P.sealErr k l c n)]) ∧ Below w.heap.size w w' := by
  rcases sealErr_cases k l c n with ⟨h1, h2⟩ | ⟨h1, h2⟩
  · have hq : ((((k < 1 ∨ 5 < k) ∨ l < 0) ∨ 255 < l) ∨ c < 0) ∨ 65535 < c := by omega
    rw [h1]
    clear h1 h2 he
    go_enter Tryz.func35, Tryz.ntmps35
    go_wp2
    all_goals
      go_ret2
      exact ⟨rfl, (Below.refl _ w).alloc (Nat.le_refl _) _⟩
  · rcases h2 with ⟨h2, h3⟩ | ⟨h2, h3⟩
    · rw [h2]
      obtain ⟨b1, b2, b3, b4, b5, b6⟩ := h1
      have c1 : decide (k < 1) = false := decide_eq_false (by omega)
      have c2 : decide (5 < k) = false := decide_eq_false (by omega)
      have c3 : decide (l < 0) = false := decide_eq_false (by omega)
      have c4 : decide (255 < l) = false := decide_eq_false (by omega)
      have c5 : decide (c < 0) = false := decide_eq_false (by omega)
      have c6 : decide (65535 < c) = false := decide_eq_false (by omega)
      have c7 : decide (248 < (n : Int)) = true := decide_eq_true (by omega)
      clear h2 he
      go_enter Tryz.func35, Tryz.ntmps35
      go_wp2
      go_ret2
      exact ⟨rfl, (Below.refl _ w).alloc (Nat.le_refl _) _⟩
    · exact absurd h2 he

def lenV : Value → Nat
  | .slice _ n _ => n
  | _ => 0
theorem be1 (x : Int) : P.be (1 : Int).toNat x.toNat = [UInt8.ofNat x.toNat] := by
  show P.be 1 x.toNat = _
  simp only [P.be, List.nil_append]
  congr 1
  apply UInt8.toNat_inj.1
  simp

set_option maxRecDepth 100000 in
set_option maxHeartbeats 3200000 in
theorem rseal_ok (k l c : Int) (a : Option Addr) (n m : Nat) (b : List UInt8) (w : World) (hr : Rd w a n b) (he : P.sealErr k l c n = 0) :
    Calls Tryz.prog 35 #[.agg #[.int .i64 k, .int .i64 l, .int .i64 c, .slice a n m]] w fun e w' =>
      ∃ v, e = .returned (.tuple #[v, .int .i64 0]) ∧ OB w' w.heap.size v (P.page k.toNat l.toNat c.toNat b) ∧ Below w.heap.size w w' := by
  rcases sealErr_cases k l c n with ⟨h1, h2⟩ | ⟨h1, ⟨h2, h3⟩ | ⟨h2, h3⟩⟩
  · rw [he] at h1; omega
  · rw [he] at h2; omega
  obtain ⟨b1, b2, b3, b4, b5, b6⟩ := h1
  have c1 : decide (k < 1) = false := decide_eq_false (by omega)
  have c2 : decide (5 < k) = false := decide_eq_false (by omega)
  have c3 : decide (l < 0) = false := decide_eq_false (by omega)
  have c4 : decide (255 < l) = false := decide_eq_false (by omega)
  have c5 : decide (c < 0) = false := decide_eq_false (by omega)
  have c6 : decide (65535 < c) = false := decide_eq_false (by omega)
  have c7 : decide (248 < (n : Int)) = false := decide_eq_false (by omega)
  obtain rfl := hr.1
  have HR := Lib.hid hr
  clear h2 he hr
  go_enter Tryz.func35, Tryz.ntmps35
  go_wp2
  have hbA : Below w.heap.size w (w.alloc (.cells #[.int .i64 k, .int .i64 l, .int .i64 c, .slice a b.length m] 89)) := (Below.refl _ w).alloc (Nat.le_refl _) _
  have hB0 : (w.alloc (.cells #[.int .i64 k, .int .i64 l, .int .i64 c, .slice a b.length m] 89)).heap[w.heap.size]? = _ := alloc_new _ _ _ rfl
  have hlt0 : w.heap.size < (w.alloc (.cells #[.int .i64 k, .int .i64 l, .int .i64 c, .slice a b.length m] 89)).heap.size := by simp
  generalize w.alloc (.cells #[.int .i64 k, .int .i64 l, .int .i64 c, .slice a b.length m] 89) = w0 at *
  have f0 : w0.cell? ⟨w.heap.size, 0, none⟩ = some (.int .i64 k) := cell_blk hB0 0
  have f1 : w0.cell? ⟨w.heap.size, 1, none⟩ = some (.int .i64 l) := cell_blk hB0 1
  have HB0 := Lib.hid hB0
  clear hB0
  go_region_held3 (fun w' => w'.cell? ⟨w.heap.size, 0, none⟩ = some (.int .i64 k) ∧ w'.cell? ⟨w.heap.size, 1, none⟩ = some (.int .i64 l))
    (first
      | go_keep
      | exact ⟨(hb1.cell (p := ⟨w.heap.size, 0, none⟩) hlt0).trans f0, (hb1.cell (p := ⟨w.heap.size, 1, none⟩) hlt0).trans f1⟩
      | exact ⟨(hb2.cell (p := ⟨w.heap.size, 0, none⟩) (Nat.lt_of_lt_of_le hlt0 hb1.size)).trans ((hb1.cell (p := ⟨w.heap.size, 0, none⟩) hlt0).trans f0), (hb2.cell (p := ⟨w.heap.size, 1, none⟩) (Nat.lt_of_lt_of_le hlt0 hb1.size)).trans ((hb1.cell (p := ⟨w.heap.size, 1, none⟩) hlt0).trans f1)⟩
      | exact ⟨(hb3.cell (p := ⟨w.heap.size, 0, none⟩) hlt0).trans f0, (hb3.cell (p := ⟨w.heap.size, 1, none⟩) hlt0).trans f1⟩)
    (first
      | (go_at_call_of 40 (Value.int .i64 k); refine (refput_any _ _ _ (by omega) (by omega) (by omega) (by omega) (by simp; omega)).mono ?_; rintro e w1 ⟨v1, rfl, hown1, hb1⟩; obtain ⟨a1, p1, hv1, hr1, -, -, -⟩ := hown1.form; subst hv1)
      | (go_at_call_of 40 (Value.int .i64 l); refine (refput_any _ _ _ (by omega) (by omega) (by omega) (by omega) (by simp; omega)).mono ?_; rintro e w2 ⟨v2, rfl, hown2, hb2⟩; obtain ⟨a2, p2, hv2, hr2, -, -, -⟩ := hown2.form; subst hv2)
      | (refine step_app _ rfl _ _ rfl w0.heap.size _ _ rfl (hown1.below hb2) _ _ _ _ rfl hr2 (by simp [P.be_length]) (by exact Nat.le_trans hb1.size hb2.size) ?_; intro v3 w3 hown3 hg3 hat3; have hb3 : Below w0.heap.size w0 w3 := (hown1.below hb2).grown ((below_of_drew hb1).trans (hb2.mono hb1.size)) (Nat.le_trans hb1.size hb2.size) hg3; obtain ⟨a3, p3, hv3, -, -, -, -⟩ := hown3.form; subst hv3))
  have ho3 : OB w3 w0.heap.size (.slice a3 2 p3) [UInt8.ofNat k.toNat, UInt8.ofNat l.toNat] := by
    have h := hown3
    rw [be1, be1] at h
    exact h
  have HO3 := Lib.hid ho3
  have hs3 := hb3.size
  have hB3 : w3.heap[w.heap.size]? = _ := (hb3.block _ hlt0).trans HB0.out
  have g3 := cell_blk hB3
  rw [P.be_length, P.be_length]
  clear hown3 hown1 hown2 hg3 hat3 hr1 hr2 ho3 hb1 hb2 f0 f1
  go_wp2_with fail
  refine (refput_any 2 c _ (by omega) (by omega) (by omega) (by omega) (by simp; omega)).mono ?_
  rintro e w4 ⟨v4, rfl, hown4, hb4⟩
  have hb4' := below_then hb3 hb4 hs3
  have hs4 := hb4'.size
  obtain ⟨a4, p4, hv4, hr4, -, -, -⟩ := hown4.form
  subst hv4
  have HR4 := Lib.hid hr4
  clear hown4 hr4 g3
  go_wp2_with (at_builtin; refine wpList_app _ rfl _ _ rfl w0.heap.size _ _ rfl (HO3.out.below hb4) _ _ _ _ rfl HR4.out ?c1 hs4 ?_)
  case c1 => simp [P.be_length]
  intro v5 w5 hown5 hg5 hat5
  have hb5 : Below w0.heap.size w0 w5 := (HO3.out.below hb4).grown hb4' hs4 hg5
  have hs5 := hb5.size
  have hB5 : w5.heap[w.heap.size]? = _ := (hb5.block _ hlt0).trans HB0.out
  have g5 := cell_blk hB5
  obtain ⟨L5, hL5⟩ : ∃ L, L = [UInt8.ofNat k.toNat, UInt8.ofNat l.toNat] ++ P.be 2 c.toNat := ⟨_, rfl⟩
  have ho5 : OB w5 w0.heap.size v5 L5 := by rw [hL5]; exact hown5
  clear hown5
  obtain ⟨a5, p5, hv5, -, -, -, -⟩ := ho5.form
  have hl5 : L5.length ≤ 4 := by rw [hL5]; simp [P.be_length]
  have hl5' : 4 ≤ L5.length := by rw [hL5]; simp [P.be_length]
  subst hv5
  have HO5 := Lib.hid ho5
  have HL5 := Lib.hid hL5
  clear ho5 hg5 hat5 hL5 hb4 HR4 HO3 hb3 hB3
  go_wp2_with (at_builtin; refine wpList_app _ rfl _ _ rfl w0.heap.size _ _ rfl HO5.out _ _ _ _ rfl (HR.out.below (hbA.trans (hb5.mono hbA.size))) ?c1 hs5 ?_)
  case c1 => omega
  intro v6 w6 hown6 hg6 hat6
  have hb6 : Below w0.heap.size w0 w6 := HO5.out.grown hb5 hs5 hg6
  have hs6 := hb6.size
  obtain ⟨L6, hL6⟩ : ∃ L, L = L5 ++ b := ⟨_, rfl⟩
  have ho6 : OB w6 w0.heap.size v6 L6 := by rw [hL6]; exact hown6
  have hl6 : L6.length ≤ 4 + b.length := by rw [hL6]; simp; omega
  have hl6' : 4 + b.length ≤ L6.length := by rw [hL6]; simp; omega
  have HO6 := Lib.hid ho6
  have HL6 := Lib.hid hL6
  clear ho6 hown6 hg6 hat6 hL6 HO5 g5 hB5
  go_wp2
  go_loopw [4] (fun v wr => ∃ j : Nat, j ≤ 248 - b.length ∧ (∃ a' p', v = .slice a' (L6.length + j) p') ∧ OB wr w0.heap.size v (L6 ++ List.replicate j 0) ∧ Below w0.heap.size w0 wr) (fun v _ => 252 - lenV v)
  case atStart =>
    have h := HO6.out
    obtain ⟨a', p', hv, -⟩ := h.form
    exact ⟨0, by omega, ⟨a', p', hv⟩, by simpa using h, hb6⟩
  case round =>
    obtain ⟨j, hj, ⟨a', p', rfl⟩, ho, hb7⟩ := hrel
    have hs7 := hb7.size
    have HO := Lib.hid ho
    clear ho
    by_cases hlt : j < 248 - b.length
    · have hlt' : ((L6.length + j : Nat) : Int) < 252 := by omega
      go_wp2_with (at_builtin; refine wpList_app _ rfl _ _ rfl w0.heap.size _ _ rfl (HO.out.alloc _) _ 1 1 [0] rfl ?c1 ?c2 ?c3 ?_)
      case c1 => exact Rd_one _ _ 0
      case c2 => simp; omega
      case c3 => simp; omega
      intro v8 w8 hown8 hg8 hat8
      have hb8 : Below w0.heap.size w0 w8 := (HO.out.alloc _).grown (hb7.alloc hs7 _) (by simp; omega) hg8
      have ho8 : OB w8 w0.heap.size v8 (L6 ++ List.replicate (j + 1) 0) := by
        rw [List.replicate_succ']
        exact hown8
      obtain ⟨a8, p8, hv8, -, -, -, -⟩ := ho8.form
      have hv8' : v8 = .slice a8 (L6.length + (j + 1)) p8 := by rw [hv8]; congr 1; simp
      subst hv8'
      have HO8 := Lib.hid ho8
      clear hown8 hv8 ho8 hg8 hat8
      go_wp2
      go_roundw
      case rel => exact ⟨j + 1, by omega, ⟨_, _, rfl⟩, HO8.out, hb8⟩
      case measure => simp [lenV]; omega
    · obtain rfl : j = 248 - b.length := by omega
      have hge : ¬ ((L6.length + (248 - b.length) : Nat) : Int) < 252 := by omega
      obtain ⟨N, hN⟩ : ∃ N, N = L6.length + (248 - b.length) := ⟨_, rfl⟩
      have ht : L6 ++ List.replicate (248 - b.length) 0 = P.tail k.toNat l.toNat c.toNat b := by rw [HL6.out, HL5.out]; simp [P.tail]
      obtain ⟨T, hT⟩ : ∃ T, T = P.tail k.toNat l.toNat c.toNat b := ⟨_, rfl⟩
      have ho := HO.out
      rw [ht, ← hT, ← hN] at ho
      rw [← hN] at hge ⊢
      have hTl : N = T.length := ho.len
      have hN2 : N ≤ 252 := by omega
      obtain ⟨a9, p9, hv9, hr9, -, -, -⟩ := ho.form
      simp only [Value.slice.injEq] at hv9
      obtain ⟨e1, e2, e3⟩ := hv9
      subst e1
      subst e2
      subst e3
      obtain ⟨C, hC⟩ : ∃ C, C = P.crc T := ⟨_, rfl⟩
      have hCl : C < 4294967296 := by rw [hC]; exact P.crc_lt _
      have HC := Lib.hid hC
      have HO9 := Lib.hid ho
      have HR9 := Lib.hid hr9
      have HT := Lib.hid hT
      clear HO ho hr9 hT hC hTl hN ht
      go_wp2_with fail
      refine (rcrc_any _ _ _ T _ HR9.out).mono ?_
      rintro e w9 ⟨rfl, rfl⟩
      rw [← HC.out]
      go_wp2_with fail
      refine (refput_any 4 C _ (by omega) (by omega) (by omega) (by omega) (by simp; omega)).mono ?_
      rintro e w10 ⟨v10, rfl, hown10, hb10⟩
      have hb10' := below_then hb7 hb10 hs7
      obtain ⟨a10, p10, hv10, -, -, -, -⟩ := hown10.form
      subst hv10
      have HO10 := Lib.hid (hown10.mono hs7)
      clear hown10
      go_wp2_with (at_builtin; refine wpList_app _ rfl _ _ rfl w0.heap.size _ _ rfl HO10.out _ _ _ _ rfl (HR9.out.below hb10) ?c1 hb10'.size ?_)
      case c1 => rw [P.be_length]; simp; omega
      intro v11 w11 hown11 hg11 hat11
      have hb11 : Below w0.heap.size w0 w11 := HO10.out.grown hb10' hb10'.size hg11
      obtain ⟨K, hK⟩ : ∃ K, K = P.page k.toNat l.toNat c.toNat b := ⟨_, rfl⟩
      have ho11 : OB w11 w0.heap.size v11 K := by
        rw [hK]
        unfold P.page
        rw [← HT.out, ← HC.out]
        exact hown11
      obtain ⟨a11, p11, hv11, -, -, -, -⟩ := ho11.form
      subst hv11
      have HK := Lib.hid hK
      have HO11 := Lib.hid ho11
      clear hown11 hg11 hat11 ho11 hK
      go_wp2
      go_ret2
      exact ⟨_, rfl, by rw [← HK.out]; exact HO11.out.mono hbA.size, hbA.trans (hb11.mono hbA.size)⟩
end Go.Proofs.YtnjpaanjgbfbaaaGreat
