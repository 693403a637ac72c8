/- The law of chapter 12: an image is built. -/
import Derived.Test.YtnjpaanjgbfbaaaGreatJ49
import Derived.Test.YtnjpaanjgbfbaaaGreatJ04
namespace Go.Proofs.YtnjpaanjgbfbaaaGreat
set_option linter.unusedVariables false
set_option linter.unusedSimpArgs false
open Go.RowKit

theorem and_1023b (x : Int) (h : -9223372036854775808 ≤ x ∧ x ≤ 9223372036854775807) : ∃ F : Nat, F < 1024 ∧ bits .and .i64 x 1023 = (F : Int) := by
  refine ⟨(BitVec.ofInt 64 x).toNat % 1024, Nat.mod_lt _ (by omega), ?_⟩
  have e : (BitVec.ofInt 64 (1023 : Int)).toNat = 1023 := by decide
  have h1 : (BitVec.ofInt 64 x &&& BitVec.ofInt 64 1023).toNat = (BitVec.ofInt 64 x).toNat % 1024 := by
    rw [BitVec.toNat_and, e, show (1023 : Nat) = 2 ^ 10 - 1 from rfl, Nat.and_two_pow_sub_one_eq_mod]
  have h2 : (BitVec.ofInt 64 x).toNat % 1024 < 1024 := Nat.mod_lt _ (by omega)
  have h3 : bits .and .i64 x 1023 = IntKind.i64.wrap (((BitVec.ofInt 64 x &&& BitVec.ofInt 64 1023).toNat : Nat) : Int) := by
    simp only [bits]
    rfl
  rw [h3, h1, IntKind.wrap_i64]
  omega
def growR (np : Nat) (S : List UInt8) (R H A2 : Nat) (img : List UInt8) : Prop :=
  (S = [] ∧ R = 0 ∧ H = 0 ∧ A2 = 2 ∧ img = textI np S) ∨
  (S ≠ [] ∧ ∃ G, Grp (psI 0 S) S.length G ∧ R = (if G.length = 1 then 2 + S.length else 2 + S.length + G.length) ∧ H = (if G.length = 1 then 1 else 2) ∧ A2 = (if G.length = 1 then 2 + S.length + 1 else 2 + S.length + G.length + 1) ∧ img = growI (textI np S) (2 + S.length) G)
theorem grow_both (B g L c np : Nat) (S : List UInt8) (a : Option Addr) (ca : Nat) (w : World) (h : ImgAt w B g L c (textI np S)) (hr : RQ w a S.length (psI 0 S)) (hne : ∀ q, a = some q → q.block ≠ g) (hL : L ≤ 1048576)
    (hm : S.length ≤ 150) (hca : S.length ≤ ca) (hAL : (2 + S.length + 10) * 256 ≤ L) :
    Calls Tryz.prog 22 #[.slice (some ⟨g, 0, none⟩) L c, .slice a S.length ca, .int .i64 ((2 + S.length : Nat) : Int)] w fun e w' =>
      ∃ R H A2 img, growR np S R H A2 img ∧ (R ≤ 2000 ∧ H ≤ 2 ∧ 2 ≤ A2 ∧ A2 ≤ 2 + S.length + 9) ∧ e = .returned (.tuple #[.int .i64 (R : Int), .int .i64 (H : Int), .int .i64 (A2 : Int)]) ∧ ImgAt w' B g L c img ∧ Chg (fun j => j = g) w w' := by
  rcases Nat.eq_zero_or_pos S.length with h0 | h0
  · have hS : S = [] := List.eq_nil_of_length_eq_zero h0
    subst hS
    refine (grow_nil g L c 2 a ca w).mono ?_
    rintro e w' ⟨rfl, rfl⟩
    exact ⟨0, 0, 2, _, .inl ⟨rfl, rfl, rfl, rfl, rfl⟩, by simp, rfl, h, Chg.refl _ _⟩
  · refine (grow_any B g L c (2 + S.length) (textI np S) (psI 0 S) a S.length ca w h hr hne hL hm h0 hca (psI_ok 0 S) (by omega) hAL).mono ?_
    rintro e w' ⟨G, hG, rfl, hi, hc⟩
    have hi2 := hG.inv
    rw [psI_length] at hG hi2
    refine ⟨_, _, _, _, .inr ⟨fun e => by rw [e] at h0; simp at h0, G, hG, rfl, rfl, rfl, rfl⟩, ?_, rfl, hi, hc⟩
    refine ⟨?_, ?_, ?_, ?_⟩ <;> split <;> omega
theorem blk8b {w1 : World} {B : Nat} {a0 a1 a2 a3 a4 a5 a6 a7 : Value} {t : TypeId} {fr : Nat × Nat} (h : w1.heap[B]? = some (.cells #[a0, a1, a2, a3, a4, a5, a6, a7] t fr)) (u0 u1 u2 u3 u4 u5 u6 u7 : Value) :
    ((((((((w1.setCell ⟨B, 0, none⟩ u0).setCell ⟨B, 1, none⟩ u1).setCell ⟨B, 2, none⟩ u2).setCell ⟨B, 3, none⟩ u3).setCell ⟨B, 4, none⟩ u4).setCell ⟨B, 5, none⟩ u5).setCell ⟨B, 6, none⟩ u6).setCell ⟨B, 7, none⟩ u7).heap[B]? = some (.cells #[u0, u1, u2, u3, u4, u5, u6, u7] t fr) := by
  have h0 := blk_setCell h 0 u0
  simp only [List.setIfInBounds_toArray, List.set_cons_zero, List.set_cons_succ] at h0
  have h1 := blk_setCell h0 1 u1
  simp only [List.setIfInBounds_toArray, List.set_cons_zero, List.set_cons_succ] at h1
  have h2 := blk_setCell h1 2 u2
  simp only [List.setIfInBounds_toArray, List.set_cons_zero, List.set_cons_succ] at h2
  have h3 := blk_setCell h2 3 u3
  simp only [List.setIfInBounds_toArray, List.set_cons_zero, List.set_cons_succ] at h3
  have h4 := blk_setCell h3 4 u4
  simp only [List.setIfInBounds_toArray, List.set_cons_zero, List.set_cons_succ] at h4
  have h5 := blk_setCell h4 5 u5
  simp only [List.setIfInBounds_toArray, List.set_cons_zero, List.set_cons_succ] at h5
  have h6 := blk_setCell h5 6 u6
  simp only [List.setIfInBounds_toArray, List.set_cons_zero, List.set_cons_succ] at h6
  have h7 := blk_setCell h6 7 u7
  simp only [List.setIfInBounds_toArray, List.set_cons_zero, List.set_cons_succ] at h7
  exact h7
theorem chg8b {S : Nat → Prop} {w w1 : World} {B : Nat} (h : Chg S w w1) (hB : w.heap.size ≤ B ∨ S B) (u0 u1 u2 u3 u4 u5 u6 u7 : Value) : Chg S w ((((((((w1.setCell ⟨B, 0, none⟩ u0).setCell ⟨B, 1, none⟩ u1).setCell ⟨B, 2, none⟩ u2).setCell ⟨B, 3, none⟩ u3).setCell ⟨B, 4, none⟩ u4).setCell ⟨B, 5, none⟩ u5).setCell ⟨B, 6, none⟩ u6).setCell ⟨B, 7, none⟩ u7) := ((((((((h.setCell ⟨B, 0, none⟩ u0 hB).setCell ⟨B, 1, none⟩ u1 hB).setCell ⟨B, 2, none⟩ u2 hB).setCell ⟨B, 3, none⟩ u3 hB).setCell ⟨B, 4, none⟩ u4 hB).setCell ⟨B, 5, none⟩ u5 hB).setCell ⟨B, 6, none⟩ u6 hB).setCell ⟨B, 7, none⟩ u7 hB)
/-- What Build leaves. -/
def supI (np : Nat) (gen : Int) (R H : Nat) (S t : List UInt8) (A2 : Nat) : P.Sup :=
  ⟨1 + bits .and .i64 gen 1023, (np : Int), (R : Int), (H : Int), ((psI 0 S).map (·.c)).sum, ((psI 0 S).map (·.d)).sum, if t.length = 0 then 0 else (A2 : Int), ((A2 + P.needN t.length : Nat) : Int)⟩
theorem psI_sums (i : Nat) (S : List UInt8) : (S.length : Int) ≤ ((psI i S).map (·.c)).sum ∧ ((psI i S).map (·.c)).sum ≤ 8 * S.length ∧ 0 ≤ ((psI i S).map (·.d)).sum ∧ ((psI i S).map (·.d)).sum ≤ ((psI i S).map (·.c)).sum := by
  induction S generalizing i with
  | nil => simp [psI]
  | cons b S ih =>
    have h1 : 1 ≤ szI b ∧ szI b ≤ 8 := by unfold szI; omega
    have h2 : List.count 10 (txI i (szI b)) ≤ szI b := by
      have := List.count_le_length (a := (10 : UInt8)) (l := txI i (szI b))
      rwa [txI_length] at this
    have h3 := ih (i + 1)
    simp only [psI, List.map_cons, List.sum_cons, List.length_cons]
    omega
theorem supI_chk (np : Nat) (S t : List UInt8) (gen : Int) (R H A2 : Nat) (img : List UInt8) (hg : -9223372036854775808 ≤ gen ∧ gen ≤ 9223372036854775807) (hnS : S.length ≤ 150) (hnT : t.length ≤ 1000) (hnp : S.length + 13 ≤ np) (hnq : S.length + 11 + P.needN t.length + 1 ≤ np) (hnp2 : np ≤ 4096)
    (h : growR np S R H A2 img) (hA : 2 ≤ A2 ∧ A2 ≤ 2 + S.length + 9) : (supI np gen R H S t A2).chk = 0 := by
  obtain ⟨F, hF, hFe⟩ := and_1023b gen hg
  have hs := psI_sums 0 S
  have hN : P.needN t.length ≤ 5 := by unfold P.needN; omega
  have hR : (S.length = 0 ∧ R = 0 ∧ H = 0) ∨ (1 ≤ S.length ∧ 2 ≤ R ∧ R ≤ 2 + S.length + 8 ∧ 1 ≤ H ∧ H ≤ 2) := by
    rcases h with ⟨rfl, rfl, rfl, -, -⟩ | ⟨hne, G, hG, rfl, rfl, -, -⟩
    · exact .inl ⟨rfl, rfl, rfl⟩
    · have hi := hG.inv
      rw [psI_length] at hi
      have h0 : 1 ≤ S.length := by
        rcases Nat.eq_zero_or_pos S.length with h | h
        · exact absurd (List.eq_nil_of_length_eq_zero h) hne
        · exact h
      refine .inr ⟨h0, ?_⟩
      by_cases h1 : G.length = 1
      · rw [if_pos h1, if_pos h1]; omega
      · rw [if_neg h1, if_neg h1]; omega
  unfold P.Sup.chk
  rw [if_pos]
  rw [P.Sup.may_iff]
  unfold supI
  rw [hFe]
  generalize ((psI 0 S).map (·.c)).sum = SC at *
  generalize ((psI 0 S).map (·.d)).sum = SD at *
  generalize P.needN t.length = N at *
  refine ⟨?_, ?_, ?_, ?_, ?_, ?_, ?_, ?_, ?_, ?_⟩ <;> simp only [] <;> (try split) <;> omega
def bldI (np : Nat) (gen : Int) (R H : Nat) (S t : List UInt8) (A2 : Nat) (img : List UInt8) : List UInt8 :=
  layAt (blobI (blobI img t A2) (bmI ((np + 7) / 8) (A2 + P.needN t.length + P.needN ((np + 7) / 8))) (A2 + P.needN t.length)) (0 * 256) (supI np gen R H S t A2).page
def BldEnd (np : Nat) (S t : List UInt8) (gen : Int) (w : World) (e : Ending) (w' : World) : Prop :=
  ∃ g R H A2 img, growR np S R H A2 img ∧ (R ≤ 2000 ∧ H ≤ 2 ∧ 2 ≤ A2 ∧ A2 ≤ 2 + S.length + 9) ∧ e = .returned (.tuple #[.slice (some ⟨g, 0, none⟩) (np * 256) (np * 256), supV (supI np gen R H S t A2)]) ∧
    ImgAt w' w.heap.size g (np * 256) (np * 256) (bldI np gen R H S t A2 img) ∧ Below w.heap.size w w'
set_option maxRecDepth 100000 in
set_option maxHeartbeats 6400000 in
theorem build_any (np : Nat) (S t : List UInt8) (aS : Option Addr) (nS cS : Nat) (aT : Option Addr) (nT cT : Nat) (gen : Int) (w : World) (hS : Rd w aS nS S) (hT : Rd w aT nT t) (hcT : nT ≤ cT)
    (hg : -9223372036854775808 ≤ gen ∧ gen ≤ 9223372036854775807) (hnS : nS ≤ 150) (hnT : nT ≤ 1000) (hnp : nS + 13 ≤ np) (hnq : nS + 11 + P.needN nT + P.needN ((np + 7) / 8) ≤ np) (hnp2 : np ≤ 4096) :
    Calls Tryz.prog 8 #[.int .i64 (np : Int), .slice aS nS cS, .slice aT nT cT, .int .i64 gen] w (BldEnd np S t gen w) := by
  obtain ⟨F, hF, hFe⟩ := and_1023b gen hg
  obtain ⟨L, hL⟩ : ∃ L, L = np * 256 := ⟨_, rfl⟩
  have n1 : (np : Int) * 256 = (L : Int) := by omega
  have hmk := mk_zr L (by omega)
  have HS := Lib.hid hS
  have HT := Lib.hid hT
  have HL := Lib.hid hL
  have HSL := Lib.hid hS.1
  have z0 : (np : Int) ≤ 4096 := by omega
  have HNQ := Lib.hid (fun a b (ha : a = P.needN nT) (hb : b = P.needN ((np + 7) / 8)) => (show nS + 11 + a + b ≤ np by rw [ha, hb]; exact hnq))
  clear hnq
  have z1 : (F : Int) ≤ 1024 := by omega
  clear hS hT hL
  go_enter Tryz.func8, Tryz.ntmps8
  go_wp2
  obtain ⟨w1, hw1⟩ : ∃ w1, w1 = ((w.alloc (.cells #[.int .i64 0, .int .i64 0, .int .i64 0, .int .i64 0, .int .i64 0, .int .i64 0, .int .i64 0, .int .i64 0] 25)).alloc (.cells (zr L) 5)).alloc (.cells #[.int .i64 (1 + (F : Int)), .int .i64 (np : Int), .int .i64 0, .int .i64 0, .int .i64 0, .int .i64 0, .int .i64 0, .int .i64 0] 25) := ⟨_, rfl⟩
  have hb1 : Below w.heap.size w w1 := by rw [hw1]; exact (((Below.refl _ w).alloc (Nat.le_refl _) _).alloc (by simp) _).alloc (by simp; omega) _
  have hk9 : w1.heap[w.heap.size]? = some (.cells #[.int .i64 0, .int .i64 0, .int .i64 0, .int .i64 0, .int .i64 0, .int .i64 0, .int .i64 0, .int .i64 0] 25 (0, 0)) := by rw [hw1]; exact alloc_old (alloc_old (alloc_new _ _ _ rfl) _) _
  have hk11 : w1.heap[w.heap.size + 1 + 1]? = some (.cells #[.int .i64 (1 + (F : Int)), .int .i64 (np : Int), .int .i64 0, .int .i64 0, .int .i64 0, .int .i64 0, .int .i64 0, .int .i64 0] 25 (0, 0)) := by rw [hw1]; exact alloc_new _ _ _ (by simp)
  have him1 : ImgAt w1 w.heap.size (w.heap.size + 1) L L (List.replicate L 0) := by
    rw [hw1]
    have h := OB_zr (w.alloc (.cells #[.int .i64 0, .int .i64 0, .int .i64 0, .int .i64 0, .int .i64 0, .int .i64 0, .int .i64 0, .int .i64 0] 25)) w.heap.size L (by simp) (by unfold maxLen; omega)
    have e : (w.alloc (.cells #[.int .i64 0, .int .i64 0, .int .i64 0, .int .i64 0, .int .i64 0, .int .i64 0, .int .i64 0, .int .i64 0] 25)).heap.size = w.heap.size + 1 := by simp
    rw [e] at h
    exact OB.alloc h _
  have hsz1 : w1.heap.size = w.heap.size + 3 := by rw [hw1]; simp
  rw [← hw1]
  clear hw1
  obtain ⟨g, hg9⟩ : ∃ g, g = w.heap.size + 1 := ⟨_, rfl⟩
  obtain ⟨b11, hb11⟩ : ∃ b, b = w.heap.size + 1 + 1 := ⟨_, rfl⟩
  obtain ⟨b9, hb9⟩ : ∃ b, b = w.heap.size := ⟨_, rfl⟩
  rw [← hb11] at hk11 ⊢
  rw [← hg9] at him1 ⊢
  rw [← hb9] at hk9 him1 ⊢
  have HB1 := Lib.hid hb1
  have HK9 := Lib.hid hk9
  have HK11 := Lib.hid hk11
  have HI1 := Lib.hid him1
  have HSZ := Lib.hid hsz1
  have hgg : g < w1.heap.size := by omega
  have hwg : w.heap.size < g := by omega
  have HG9 := Lib.hid hg9
  have HB11 := Lib.hid hb11
  have HB9 := Lib.hid hb9
  clear hg9 hb11 hb9
  clear hb1 hk9 hk11 him1 hsz1 hmk
  go_loopw [12, 13, 14] (fun at_ v i wr => ∃ n : Nat, n ≤ nS ∧ i = .int .i64 n ∧ at_ = .int .i64 ((2 + n : Nat) : Int) ∧ (∃ a n c, v = .slice a n c) ∧ OV wr w1.heap.size 59 4 v n (qCs (psI 0 (S.take n))) ∧ ImgAt wr b9 g L L (layN (List.replicate L 0) 2 ((txsI 0 (S.take n)).map P.txtB)) ∧ Chg (fun q => q = g) w1 wr) (fun _ v i _ => nS - (intOf i).toNat)
  case atStart => exact ⟨0, by omega, rfl, rfl, ⟨_, _, _, rfl⟩, OV.nil _ _ _ _, HI1.out, Chg.refl _ _⟩
  case round =>
    obtain ⟨n, hn, rfl, rfl, ⟨av, nv, cv, rfl⟩, ho, him, hcr⟩ := hrel
    obtain rfl : n = nv := ho.len.symm
    have HO := Lib.hid ho
    have HIM := Lib.hid him
    have HCR := Lib.hid hcr
    have i0 : (0 : Int) ≤ (n : Int) := by omega
    by_cases hlt : n < nS
    · have i1 : (n : Int) < (nS : Int) := by omega
      have hnl : n < S.length := by rw [HSL.out]; exact hlt
      obtain ⟨qS, rfl, hcell⟩ := (((HS.out.below HB1.out).chg hcr (fun p e => by show ¬ p.block = g; have := HS.out.lt (by rw [HSL.out]; omega) p e; omega)) : Rd wr aS nS S).at n hnl
      obtain ⟨b, hb⟩ : ∃ b, b = S[n] := ⟨_, rfl⟩
      have HB := Lib.hid (show S.take (n + 1) = S.take n ++ [b] by rw [List.take_succ_eq_append_getElem hnl, hb])
      unfold bv at hcell
      rw [← hb] at hcell
      obtain ⟨sz, hsz⟩ : ∃ sz, sz = szI b := ⟨_, rfl⟩
      have hs8 : 1 ≤ sz ∧ sz ≤ 8 := by rw [hsz]; unfold szI; omega
      have HSZI := Lib.hid hsz
      unfold szI at hsz
      have q1 : (b.toNat : Int) % 8 = ((b.toNat % 8 : Nat) : Int) := by omega
      have q2 : (b.toNat : Int).tmod 8 = ((b.toNat % 8 : Nat) : Int) := by rw [Int.tmod_eq_emod_of_nonneg (by omega)]; exact q1
      have q3 : (1 : Int) + ((b.toNat % 8 : Nat) : Int) = (sz : Int) := by omega
      generalize hr8 : b.toNat % 8 = r8 at q1 q2 q3 hsz
      have hmk := mk_zr sz (by omega)
      have q4 : (r8 : Int) ≤ 7 := by omega
      have q5 : (0 : Int) ≤ (b.toNat : Int) := by omega
      have q6 : (b.toNat : Int) ≤ 255 := by have := b.toNat_lt; omega
      clear ho him hcr hb hsz hr8 hnl
      obtain ⟨r20, hr20⟩ : ∃ r, r = n % 20 := ⟨_, rfl⟩
      have y1 : (n : Int) % 20 = (r20 : Int) := by omega
      have y2 : (n : Int).tmod 20 = (r20 : Int) := by rw [Int.tmod_eq_emod_of_nonneg (by omega)]; exact y1
      have y3 : (r20 : Int) < 20 := by omega
      have HR20 := Lib.hid hr20
      clear hr20
      obtain ⟨wo, rfl⟩ : ∃ wo, wo = wr := ⟨_, rfl⟩
      obtain ⟨w2, hw2⟩ : ∃ w2, w2 = wo.alloc (.cells (zr sz) 5) := ⟨_, rfl⟩
      have hi2 : ImgAt w2 wo.heap.size wo.heap.size sz sz (bufI n sz 0) := by
        rw [hw2, bufI_zero]
        exact OB_zr wo wo.heap.size sz (Nat.le_refl _) (by unfold maxLen; omega)
      have hb2 : Below wo.heap.size wo w2 := by rw [hw2]; exact (Below.refl _ wo).alloc (Nat.le_refl _) _
      have HI2 := Lib.hid hi2
      have HB2 := Lib.hid hb2
      have HW2 := Lib.hid hw2
      clear hi2 hb2 hw2
      go_wp2
      rw [← HW2.out]
      clear HW2 hmk
      obtain ⟨tb, htb⟩ : ∃ tb, tb = wo.heap.size := ⟨_, rfl⟩
      rw [← htb] at HI2 HB2 ⊢
      have HTB := Lib.hid htb
      clear htb
      go_loopw [17] (fun j wq => ∃ k : Nat, k ≤ sz ∧ j = .int .i64 k ∧ ImgAt wq tb tb sz sz (bufI n sz k) ∧ Below tb wo wq) (fun j _ => sz - (intOf j).toNat)
      case atStart => exact ⟨0, by omega, rfl, HI2.out, HB2.out⟩
      case round =>
        obtain ⟨k, hk, rfl, hik, hbk⟩ := hrel
        have k0 : (0 : Int) ≤ (k : Int) := by omega
        by_cases hks : k < sz
        · have k1 : (k : Int) < (sz : Int) := by omega
          have hkl : k < (bufI n sz k).length := by rw [bufI_length]; exact hks
          have gc : wr.cell? ⟨tb, k, none⟩ = some (bv (bufI n sz k)[k]) := OB.cell hik k hkl
          have gf : wr.frozen? ⟨tb, k, none⟩ = false := OB.free hik k
          generalize bv (bufI n sz k)[k] = bx at gc
          obtain ⟨r5, hr5⟩ : ∃ r, r = (n + k) % 5 := ⟨_, rfl⟩
          have x1 : ((n : Int) + (k : Int)) % 5 = (r5 : Int) := by omega
          have x2 : ((n : Int) + (k : Int)).tmod 5 = (r5 : Int) := by rw [Int.tmod_eq_emod_of_nonneg (by omega)]; exact x1
          have HIK := Lib.hid hik
          have HBK := Lib.hid hbk
          have HR5 := Lib.hid hr5
          clear hik hbk hkl hr5
          have hx97 : ((97 + r20 : Nat) : Int) = (((UInt8.ofNat (97 + n % 20)).toNat : Nat) : Int) := by
            rw [← HR20.out, UInt8.toNat_ofNat']
            have : r20 < 20 := by omega
            omega
          have HX97 := Lib.hid hx97
          clear hx97
          go_upto_region 14 with (fail)
          obtain ⟨x, hx⟩ : ∃ x : UInt8, x = UInt8.ofNat (97 + n % 20) := ⟨_, rfl⟩
          have hX : ((97 + r20 : Nat) : Int) = ((x.toNat : Nat) : Int) := by rw [hx]; exact HX97.out
          have hX2 : (97 : Int) + (r20 : Int) = (x.toNat : Int) := by omega
          rw [hX2]
          obtain ⟨wx, hwx⟩ : ∃ wx, wx = wr.setCell ⟨tb, k, none⟩ (.int .u8 (x.toNat : Int)) := ⟨_, rfl⟩
          rw [← hwx]
          have hix : ImgAt wx tb tb sz sz ((bufI n sz k).set k x) := by rw [hwx]; exact HIK.out.set k x
          have hbx : Below tb wo wx := by rw [hwx]; exact HBK.out.setCell (Nat.le_refl _) _
          have hr5 := HR5.out
          clear gc gf
          by_cases h4 : r5 = 4
          · have hch : bufI n sz (k + 1) = ((bufI n sz k).set k x).set k 10 := by
              rw [bufI_succ n sz k hks, List.set_set]
              unfold chI
              rw [if_pos (by omega)]
            have hc1 : (((bufI n sz k).set k x).set k 10).length = sz := by simp [bufI_length]
            have hkx : k < ((bufI n sz k).set k x).length := by simp [bufI_length]; exact hks
            have gc : wx.cell? ⟨tb, k, none⟩ = some (bv ((bufI n sz k).set k x)[k]) := OB.cell hix k hkx
            have gf : wx.frozen? ⟨tb, k, none⟩ = false := OB.free hix k
            generalize bv ((bufI n sz k).set k x)[k] = bx at gc
            subst h4
            have HCH := Lib.hid hch
            have HSX := Lib.hid (show ImgAt (wx.setCell ⟨tb, k, none⟩ (.int .u8 10)) tb tb sz sz (((bufI n sz k).set k x).set k 10) from hix.set k 10)
            have HBX := Lib.hid (hbx.setCell (p := ⟨tb, k, none⟩) (Nat.le_refl _) (.int .u8 10))
            clear hkx
            clear hch hc1 hix hbx hr5 hwx hx hX hX2
            go_wp2
            exact ⟨⟨k + 1, by omega, by go_num, by rw [HCH.out]; exact HSX.out, HBX.out⟩, by simp [intOf]; omega⟩
          · have h4b : ((r5 : Int) == 4) = false := by simp; omega
            have HCH := Lib.hid (show bufI n sz (k + 1) = (bufI n sz k).set k x by
              rw [bufI_succ n sz k hks, hx]
              unfold chI
              rw [if_neg (by omega)])
            have HIX := Lib.hid hix
            have HBX := Lib.hid hbx
            clear hix hbx hr5 hwx hx hX hX2 h4
            go_wp2
            exact ⟨⟨k + 1, by omega, by go_num, by rw [HCH.out]; exact HIX.out, HBX.out⟩, by simp [intOf]; omega⟩
        · obtain rfl : k = sz := by omega
          rw [bufI_full] at hik
          have HIK := Lib.hid hik
          have HBK := Lib.hid hbk
          clear hik hbk
          have htl := txI_length n k
          obtain ⟨TX, hTX⟩ : ∃ TX, TX = txI n k := ⟨_, rfl⟩
          rw [← hTX] at htl HIK
          have HTX := Lib.hid hTX
          have hrd := HIK.out.rd.1
          have HBY := Lib.hid (rbytes_fun (some ⟨tb, 0, none⟩) k k TX wr hrd)
          have htb := HTB.out
          have hbo : Below wo.heap.size wo wr := htb ▸ HBK.out
          have HBO := Lib.hid hbo
          have HWO := Lib.hid HCR.out.size
          obtain ⟨M, hM⟩ : ∃ M, M = 2 + n := ⟨_, rfl⟩
          rw [← hM]
          have HM := Lib.hid hM
          have hMb : (M : Int) ≤ 3000 := by omega
          obtain ⟨img, himg⟩ : ∃ img, img = layN (List.replicate L 0) 2 ((txsI 0 (S.take n)).map P.txtB) := ⟨_, rfl⟩
          have HIMG := Lib.hid himg
          rw [← himg] at HIM
          have hbt := txtB_le TX
          obtain ⟨T, hT9⟩ : ∃ T, T = (P.txtB TX).length := ⟨_, rfl⟩
          have HT9 := Lib.hid hT9
          have HBT := Lib.hid hbt
          clear htl hTX hrd htb hbo hM himg hbt hT9
          go_wp2_with fail
          refine HBY.out.mono ?_
          rintro e w5 ⟨v5, rfl, ho5, hb5⟩
          obtain ⟨a5, c5, hv5, hr5, -, hq5, -⟩ := ho5.form
          subst hv5
          rw [← HT9.out] at hr5 ⊢
          have HLAY := Lib.hid (ilay_any b9 g L L M img a5 T c5 (P.txtB TX) w5 ((HIM.out.below HBO.out).below hb5) hr5 (fun q e => by have := (hq5 q e).1; have := HBO.out.size; have := HWO.out; omega) (by have := HL.out; omega) (by have := HL.out; have := HT9.out; have := HBT.out; have := HM.out; omega))
          have HB5 := Lib.hid hb5
          clear ho5 hb5 hr5 hq5
          go_wp2_with fail
          refine (first_any _ _ _ _ _).mono ?_
          rintro e w6 ⟨rfl, rfl⟩
          go_wp2_with fail
          refine HLAY.out.mono ?_
          rintro e w7 ⟨rfl, hi7, hc7⟩
          have hcw := ((HCR.out.trans (Chg.of_below HBO.out _)).trans (Chg.of_below HB5.out _)).trans hc7
          have htg : tb ≠ g := by have := HTB.out; have := HWO.out; omega
          have hr7 : Rd w7 (some ⟨tb, 0, none⟩) k TX := ((HIK.out.below HB5.out).chg hc7 (fun e => htg e)).rd.1
          have ho7 := ((HO.out.below HBO.out).below HB5.out).turned hc7 hgg
          have HLI := Lib.hid (lines_any (some ⟨tb, 0, none⟩) k k TX w7 hr7 (by omega))
          obtain ⟨C, hC⟩ : ∃ C, C = List.count (10 : UInt8) TX := ⟨_, rfl⟩
          rw [← hC] at HLI
          have hps : psI 0 (S.take (n + 1)) = psI 0 (S.take n) ++ [(⟨(M : Int), 0, (k : Int), (C : Int)⟩ : P.Q)] := by
            have hl : (S.take n).length = n := by rw [List.length_take, HSL.out]; omega
            rw [HB.out, psI_snoc, hl, ← HSZI.out, Nat.zero_add, ← HTX.out, ← hC, ← HM.out]
          have hti : layN (List.replicate L 0) 2 ((txsI 0 (S.take (n + 1))).map P.txtB) = layAt img (M * 256) (P.txtB TX) := by
            have hl : (S.take n).length = n := by rw [List.length_take, HSL.out]; omega
            rw [HB.out, txsI_snoc, List.map_append, List.map_cons, List.map_nil, layN_snoc, ← HIMG.out, List.length_map, txsI_length, hl, ← HSZI.out, Nat.zero_add, ← HTX.out, ← HM.out]
          rw [← hti] at hi7
          have hrq := RQ_one w7 59 ⟨(M : Int), 0, (k : Int), (C : Int)⟩
          have hst : w1.heap.size ≤ (w7.alloc (.cells #[.int .i64 (M : Int), .int .i64 0, .int .i64 (k : Int), .int .i64 (C : Int)] 59)).heap.size := by have := hcw.size; simp; omega
          have HRQ := Lib.hid hrq
          have HI7 := Lib.hid hi7
          have HO7 := Lib.hid ho7
          have HCW := Lib.hid hcw
          have HPS := Lib.hid hps
          clear hc7 hr7 ho7 hcw hC hps hti hi7 hrq htg
          go_wp2_with (first
            | (go_at_call 21; refine HLI.out.mono ?_; rintro e w8 ⟨rfl, rfl⟩)
            | (at_builtin; refine wpList_appV piecesT _ rfl _ _ rfl w1.heap.size _ _ _ rfl (HO7.out.alloc _) _ _ _ _ rfl HRQ.out (qC_one _) ?c1 ?c2 hst ?_))
          case c1 => omega
          case c2 => omega
          intro v9 w9 hown9 hg9' hat9
          have hc9 := chg_grown (HCW.out.alloc _) hg9' (fun r e => HO7.out.base r e)
          have hi9 := (HI7.out.below ((Below.refl _ w7).alloc (Nat.le_refl _) _)).grown hg9' (fun r e => by have := HO7.out.base r e; omega)
          rw [← qCs_snoc, ← HPS.out] at hown9
          obtain ⟨a9, c9, hv9, -⟩ := hown9.form
          subst hv9
          have HO9 := Lib.hid hown9
          have HC9 := Lib.hid hc9
          have HI9 := Lib.hid hi9
          clear hown9 hg9' hat9 hc9 hi9
          go_wp2
          go_roundw
          case rel =>
            have hM := HM.out
            exact ⟨n + 1, by omega, by go_num, by subst hM; go_num, ⟨_, _, _, rfl⟩, HO9.out, HI9.out, HC9.out⟩
          case measure => simp [intOf]; omega
    · obtain rfl : n = nS := by omega
      have hSt : S.take n = S := List.take_of_length_le (by rw [HSL.out]; exact Nat.le_refl _)
      rw [hSt] at ho him
      clear HO HIM HCR
      have hsl := HSL.out
      obtain ⟨hrq, hcv, hab⟩ : RQ wr av n (psI 0 S) ∧ n ≤ cv ∧ ∀ q, av = some q → w1.heap.size ≤ q.block := by
        obtain ⟨a', c', e, hr', hc', hq', -⟩ := ho.form
        cases e
        exact ⟨hr', hc', fun q e => (hq' q e).1⟩
      have him' : ImgAt wr b9 g L L (textI np S) := by
        unfold textI
        rw [← HL.out]
        exact him
      have hgr := grow_both b9 g L L np S av cv wr him' (hsl.symm ▸ hrq) (fun q e => by have := hab q e; omega) (by have := HL.out; omega) (by omega) (by omega) (by have := HL.out; omega)
      rw [hsl] at hgr
      obtain ⟨M, hM⟩ : ∃ M, M = 2 + n := ⟨_, rfl⟩
      rw [← hM] at hgr ⊢
      have HGR := Lib.hid hgr
      have HRQ := Lib.hid hrq
      have HAB := Lib.hid hab
      have HCR := Lib.hid hcr
      have HM := Lib.hid hM
      clear hrq hab him' hgr ho him hcr hSt hM
      go_wp2_with fail
      refine HGR.out.mono ?_
      rintro e w3 ⟨R, H, A2, img, hgw, ⟨hR, hH, hA, hA'⟩, rfl, hi3, hc3⟩
      have hcw3 := HCR.out.trans hc3
      have hbb : b11 < w1.heap.size ∧ b11 ≠ g ∧ b9 < w1.heap.size ∧ b9 ≠ g ∧ b9 ≠ b11 := by have := HB11.out; have := HB9.out; have := HG9.out; have := HSZ.out; omega
      obtain ⟨hb11l, hb11g, hb9l, hb9g, hb911⟩ := hbb
      have hk3 := (hcw3.block b11 hb11l hb11g).trans HK11.out
      have hq3 : RQ w3 av n (psI 0 S) := RV.chg HRQ.out hc3 (fun q e => by show ¬ q.block = g; have := HAB.out q e; omega)
      have gk := cell_blk hk3
      have fk := free_blk hk3
      have HGW := Lib.hid hgw
      have HI3 := Lib.hid hi3
      have HCW3 := Lib.hid hcw3
      have HK3 := Lib.hid hk3
      have HQ3 := Lib.hid hq3
      clear hgw hi3 hc3 hcw3 hk3 hq3 HGR HCR HRQ
      go_upto_region 20 with (fail)
      obtain ⟨w4, hw4⟩ : ∃ w4, w4 = (w3.setCell ⟨b11, 2, none⟩ (.int .i64 (R : Int))).setCell ⟨b11, 3, none⟩ (.int .i64 (H : Int)) := ⟨_, rfl⟩
      rw [← hw4]
      have hk4 : w4.heap[b11]? = some (.cells #[.int .i64 (1 + (F : Int)), .int .i64 (np : Int), .int .i64 (R : Int), .int .i64 (H : Int), .int .i64 0, .int .i64 0, .int .i64 0, .int .i64 0] 25 (0, 0)) := by rw [hw4]; exact blk_setCell (blk_setCell HK3.out 2 _) 3 _
      have hc4 : Chg (fun j => j = b11) w3 w4 := by rw [hw4]; exact (setCell_chg _ _ _ _).trans (setCell_chg _ _ _ _)
      have HK4 := Lib.hid hk4
      have HC4 := Lib.hid hc4
      have HI4 := Lib.hid (HI3.out.chg hc4 (fun e => hb11g e.symm))
      have hq4 : RQ w4 av n (psI 0 S) := RV.chg HQ3.out hc4 (fun q e => by show ¬ q.block = b11; have := HAB.out q e; omega)
      have HQ4 := Lib.hid hq4
      clear hk4 hc4 hw4 hq4 gk fk
      go_wp2
      obtain ⟨X, hX⟩ : ∃ X, X = psI 0 S := ⟨_, rfl⟩
      have HX := Lib.hid hX
      have hXl : X.length = n := by rw [hX, psI_length, hsl]
      have HXL := Lib.hid hXl
      have HXO := Lib.hid (show ∀ q ∈ X, (0 ≤ q.c ∧ q.c ≤ 1000) ∧ 0 ≤ q.d ∧ q.d ≤ 1000 by rw [hX]; exact psI_ok 0 S)
      rw [← hX] at HQ4
      clear hX hXl
      go_loopw [18] (fun j wq => ∃ k : Nat, k ≤ n ∧ j = .int .i64 k ∧ wq.heap[b11]? = some (.cells #[.int .i64 (1 + (F : Int)), .int .i64 (np : Int), .int .i64 (R : Int), .int .i64 (H : Int), .int .i64 (((X.take k).map (·.c)).sum), .int .i64 (((X.take k).map (·.d)).sum), .int .i64 0, .int .i64 0] 25 (0, 0)) ∧ Chg (fun q => q = b11) w4 wq) (fun j _ => n - (intOf j).toNat)
      case atStart => exact ⟨0, by omega, rfl, by simpa using HK4.out, Chg.refl _ _⟩
      case round =>
        obtain ⟨k, hk, rfl, hkq, hbq⟩ := hrel
        have k0 : (0 : Int) ≤ (k : Int) := by omega
        by_cases hkN : k < n
        · have hkl : k < X.length := by rw [HXL.out]; omega
          have sc := sum_take (f := (·.c)) X k hkl
          have sd := sum_take (f := (·.d)) X k hkl
          have bc := sum_bound (f := (·.c)) (X.take k) (fun q h => (HXO.out q (List.mem_of_mem_take h)).1)
          have bd := sum_bound (f := (·.d)) (X.take k) (fun q h => (HXO.out q (List.mem_of_mem_take h)).2)
          rw [List.length_take, HXL.out] at bc bd
          have hx := HXO.out _ (List.getElem_mem hkl)
          obtain ⟨pa, hpa, -⟩ := HQ4.out.at k hkl
          subst hpa
          have hpb : pa.block ≠ b11 := by have := HAB.out pa rfl; omega
          have hps := fun W (hc : Chg (fun q => q = b11) w4 W) => RQ.at (show RQ W (some pa) n X from RV.chg HQ4.out hc (fun q e => by cases e; exact hpb)) k hkl
          obtain ⟨x, hx9⟩ : ∃ x, x = X[k] := ⟨_, rfl⟩
          rw [← hx9] at hx hps sc sd
          have HSC := Lib.hid sc
          have HSD := Lib.hid sd
          obtain ⟨SC, hSC⟩ : ∃ S, S = ((X.take k).map (·.c)).sum := ⟨_, rfl⟩
          obtain ⟨SD, hSD⟩ : ∃ S, S = ((X.take k).map (·.d)).sum := ⟨_, rfl⟩
          rw [← hSC] at hkq bc HSC
          rw [← hSD] at hkq bd HSD
          obtain ⟨xa, xb, xc, xd⟩ := x
          have bc2 : SC ≤ 150000 := by omega
          have bd2 : SD ≤ 150000 := by omega
          have b1 : (0 : Int) ≤ xc ∧ xc ≤ 1000 := hx.1
          have b2 : (0 : Int) ≤ xd ∧ xd ≤ 1000 := hx.2
          have bc1 := bc.1
          have bd1 := bd.1
          have k1 : (k : Int) < (n : Int) := by omega
          have hnk : ¬ (pa.add (k * 4)).block = b11 := by rw [add_block]; exact hpb
          have HPW := Lib.hid hps
          have HKQ := Lib.hid hkq
          have HBQ := Lib.hid hbq
          have ps1 : ∀ W, Chg (fun q => q = b11) w4 W → W.cell? ⟨(pa.add (k * 4)).block, (pa.add (k * 4)).off + 2, none⟩ = some (.int .i64 xc) ∧ W.cell? ⟨(pa.add (k * 4)).block, (pa.add (k * 4)).off + 3, none⟩ = some (.int .i64 xd) := fun W hb => by
            obtain ⟨p, e, -, -, h3, h4⟩ := HPW.out W hb
            cases e
            exact ⟨h3, h4⟩
          have HPS1 := Lib.hid ps1
          have c1 := (ps1 _ hbq.drew).1
          have hkd : wr.drew.heap[b11]? = _ := hkq
          have gk := cell_blk hkd
          have fk := free_blk hkd
          clear sc sd bc bd hx hps hx9 hSC hSD hkq hbq ps1 hkd hkl
          go_wp2_with fail
          go_still_tail 9, (by kernel_rfl)
          go_wp2_with fail
          obtain ⟨wx, hwx⟩ : ∃ wx, wx = (wr.setCell ⟨b11, 4, none⟩ (.int .i64 (SC + xc))).drew := ⟨_, rfl⟩
          rw [← hwx]
          have hkx : wx.heap[b11]? = some (.cells #[.int .i64 (1 + (F : Int)), .int .i64 (np : Int), .int .i64 (R : Int), .int .i64 (H : Int), .int .i64 (SC + xc), .int .i64 SD, .int .i64 0, .int .i64 0] 25 (0, 0)) := by rw [hwx]; exact blk_setCell HKQ.out 4 _
          have hbx : Chg (fun q => q = b11) w4 wx := by rw [hwx]; exact (HBQ.out.setCell _ _ (.inr rfl)).drew
          have c2 := (HPS1.out _ hbx.drew).2
          have hxd : wx.drew.heap[b11]? = _ := hkx
          clear gk fk c1 hwx
          have gk := cell_blk hxd
          have fk := free_blk hxd
          have HKX := Lib.hid hkx
          have HBX := Lib.hid hbx
          clear hkx hbx hxd
          go_wp2_with fail
          go_still_tail 9, (by kernel_rfl)
          go_wp2_with fail
          obtain ⟨wz, hwz⟩ : ∃ wz, wz = (wx.setCell ⟨b11, 5, none⟩ (.int .i64 (SD + xd))).drew := ⟨_, rfl⟩
          rw [← hwz]
          have hkz : wz.heap[b11]? = some (.cells #[.int .i64 (1 + (F : Int)), .int .i64 (np : Int), .int .i64 (R : Int), .int .i64 (H : Int), .int .i64 (SC + xc), .int .i64 (SD + xd), .int .i64 0, .int .i64 0] 25 (0, 0)) := by rw [hwz]; exact blk_setCell HKX.out 5 _
          have hbz : Chg (fun q => q = b11) w4 wz := by rw [hwz]; exact (HBX.out.setCell _ _ (.inr rfl)).drew
          have HKZ := Lib.hid hkz
          have HBZ := Lib.hid hbz
          clear gk fk c2 hwz hkz hbz
          go_wp2
          exact ⟨⟨k + 1, by omega, by go_num, by rw [HSC.out, HSD.out]; exact HKZ.out, HBZ.out⟩, by simp [intOf]; omega⟩
        · obtain rfl : k = n := by omega
          rw [List.take_of_length_le (by rw [HXL.out]; exact Nat.le_refl _)] at hkq
          have sbc := sum_bound (f := (·.c)) X (fun q h => (HXO.out q h).1)
          have sbd := sum_bound (f := (·.d)) X (fun q h => (HXO.out q h).2)
          rw [HXL.out] at sbc sbd
          obtain ⟨SC, hSC⟩ : ∃ S, S = (X.map (·.c)).sum := ⟨_, rfl⟩
          obtain ⟨SD, hSD⟩ : ∃ S, S = (X.map (·.d)).sum := ⟨_, rfl⟩
          rw [← hSC] at hkq sbc
          rw [← hSD] at hkq sbd
          have HSC := Lib.hid hSC
          have HSD := Lib.hid hSD
          have hT5 : Rd wr aT nT t := by
            rcases Nat.eq_zero_or_pos t.length with h0 | h0
            · have h1 := HT.out
              exact ⟨h1.1, h1.2.1, fun i hi => by omega⟩
            · have hl := HT.out.lt h0
              refine ((((HT.out.below HB1.out).chg HCW3.out ?_).chg HC4.out ?_).chg hbq ?_)
              · intro p e; show ¬ p.block = g; have := hl p e; have := HG9.out; omega
              · intro p e; show ¬ p.block = b11; have := hl p e; have := HB11.out; omega
              · intro p e; show ¬ p.block = b11; have := hl p e; have := HB11.out; omega
          have hi5 := HI4.out.chg hbq (fun e => hb11g e.symm)
          obtain ⟨N1, hN1⟩ : ∃ N1, N1 = P.needN nT := ⟨_, rfl⟩
          have hN1b : N1 ≤ 5 := by rw [hN1]; unfold P.needN; omega
          obtain ⟨F1, hF1⟩ : ∃ F1 : Int, F1 = if nT = 0 then 0 else (A2 : Int) := ⟨_, rfl⟩
          have HBL := Lib.hid (blob_any b9 g L L np A2 img t aT nT cT F1 wr hi5 hT5 hcT (by have := HL.out; omega) hnp2 (by omega) hA (by rw [← hN1]; have := HM.out; have := HNQ.out N1 _ hN1 rfl; omega) (by have := HM.out; omega) hF1)
          obtain ⟨A3, hA3⟩ : ∃ A3, A3 = A2 + N1 := ⟨_, rfl⟩
          rw [← hN1, ← hA3] at HBL
          have HA3 := Lib.hid hA3
          have HN1 := Lib.hid hN1
          have HF1 := Lib.hid hF1
          have HKQ := Lib.hid hkq
          have HBQ := Lib.hid hbq
          clear hkq hbq hT5 hi5 hSC hSD hF1 hN1 hA3
          go_wp2_with fail
          refine HBL.out.mono ?_
          rintro e w5 ⟨rfl, hi5, hc5⟩
          have hk5 := (hc5.block b11 (by have := HBQ.out.size; have := HC4.out.size; have := HCW3.out.size; omega) hb11g).trans HKQ.out
          have gk := cell_blk hk5
          have fk := free_blk hk5
          have HK5 := Lib.hid hk5
          have HI5 := Lib.hid hi5
          have HC5 := Lib.hid hc5
          clear hk5 hi5 hc5
          go_upto_region 26 with (fail)
          obtain ⟨w6, hw6⟩ : ∃ w6, w6 = w5.setCell ⟨b11, 6, none⟩ (.int .i64 F1) := ⟨_, rfl⟩
          rw [← hw6]
          have hk6 : w6.heap[b11]? = some (.cells #[.int .i64 (1 + (F : Int)), .int .i64 (np : Int), .int .i64 (R : Int), .int .i64 (H : Int), .int .i64 SC, .int .i64 SD, .int .i64 F1, .int .i64 0] 25 (0, 0)) := by rw [hw6]; exact blk_setCell HK5.out 6 _
          have hc6 : Chg (fun j => j = b11) w5 w6 := by rw [hw6]; exact setCell_chg _ _ _ _
          have HK6 := Lib.hid hk6
          have HC6 := Lib.hid hc6
          have HI6 := Lib.hid (HI5.out.chg hc6 (fun e => hb11g e.symm))
          clear hk6 hc6 hw6 gk fk
          obtain ⟨nb, hnb⟩ : ∃ nb, nb = (np + 7) / 8 := ⟨_, rfl⟩
          have p1 : ((np : Int) + 7) / 8 = (nb : Int) := by omega
          have p2 : ((np : Int) + 7).tdiv 8 = (nb : Int) := by rw [Int.tdiv_eq_ediv_of_nonneg (by omega)]; exact p1
          have hmk := mk_zr nb (by omega)
          obtain ⟨N2, hN2⟩ : ∃ N2, N2 = P.needN nb := ⟨_, rfl⟩
          have hN2b : N2 ≤ 3 := by rw [hN2]; unfold P.needN; omega
          have hN2c : 1 ≤ N2 := by rw [hN2]; unfold P.needN; omega
          have hnn := HNQ.out N1 N2 HN1.out (by rw [hN2, hnb])
          have HND := Lib.hid (fun w => rneed_any (nb : Int) w (by omega))
          rw [P.need_nat nb, ← hN2] at HND
          obtain ⟨A4, hA4⟩ : ∃ A4, A4 = A3 + N2 := ⟨_, rfl⟩
          have hA3 := HA3.out
          have p3 : (A3 : Int) + (N2 : Int) = (A4 : Int) := by omega
          have p4 : (A4 : Int) ≤ 3000 := by have := HM.out; omega
          have hA4n : A4 ≤ 8 * nb := by have := HM.out; omega
          have HNB := Lib.hid hnb
          have HN2 := Lib.hid hN2
          have HA4 := Lib.hid hA4
          obtain ⟨gb, hgb⟩ : ∃ gb, gb = w6.heap.size := ⟨_, rfl⟩
          obtain ⟨w7, hw7⟩ : ∃ w7, w7 = w6.alloc (.cells (zr nb) 5) := ⟨_, rfl⟩
          have hi7 : ImgAt w7 gb gb nb nb (bmI nb 0) := by
            rw [hw7, bmI_zero, hgb]
            exact OB_zr w6 w6.heap.size nb (Nat.le_refl _) (by unfold maxLen; omega)
          have hb7 : Below gb w6 w7 := by rw [hw7, hgb]; exact (Below.refl _ w6).alloc (Nat.le_refl _) _
          have HI7 := Lib.hid hi7
          have HB7 := Lib.hid hb7
          have HGB := Lib.hid hgb
          have HW7 := Lib.hid hw7
          clear hi7 hb7 hw7 hgb hA4 hN2 hnb hA3
          go_wp2_with (go_at_call 24; refine (HND.out _).mono ?_; rintro e w8 ⟨rfl, hw8⟩; rw [← HW7.out] at hw8; subst hw8; rw [← HGB.out])
          clear hmk
          obtain ⟨wo, rfl⟩ : ∃ wo, wo = w8 := ⟨_, rfl⟩
          go_loopw [21] (fun j wq => ∃ q : Nat, q ≤ A4 ∧ j = .int .i64 q ∧ ImgAt wq gb gb nb nb (bmI nb q) ∧ Below gb w6 wq) (fun j _ => A4 - (intOf j).toNat)
          case atStart => exact ⟨0, by omega, rfl, HI7.out, HB7.out⟩
          case round =>
            obtain ⟨q, hq, rfl, hiq, hbq⟩ := hrel
            have k0 : (0 : Int) ≤ (q : Int) := by omega
            by_cases hqA : q < A4
            · have k1 : (q : Int) < (A4 : Int) := by omega
              obtain ⟨Q, hQ⟩ : ∃ Q, Q = q / 8 := ⟨_, rfl⟩
              obtain ⟨r, hr⟩ : ∃ r, r = q % 8 := ⟨_, rfl⟩
              have hQn : Q < nb := by omega
              have x1 : (q : Int) / 8 = (Q : Int) := by omega
              have x2 : (q : Int).tdiv 8 = (Q : Int) := by rw [Int.tdiv_eq_ediv_of_nonneg (by omega)]; exact x1
              have x3 : (q : Int) % 8 = (r : Int) := by omega
              have x4 : (q : Int).tmod 8 = (r : Int) := by rw [Int.tmod_eq_emod_of_nonneg (by omega)]; exact x3
              have x5 : (0 : Int) ≤ (Q : Int) := by omega
              have x6 : (Q : Int) < (nb : Int) := by omega
              have hql : q / 8 < (bmI nb q).length := by rw [bmI_length, ← hQ]; exact hQn
              have gc : wr.cell? ⟨gb, q / 8, none⟩ = some (bv (bmI nb q)[q / 8]) := OB.cell hiq (q / 8) hql
              rw [bmI_get, ← hr, ← hQ] at gc
              have gf : wr.frozen? ⟨gb, Q, none⟩ = false := OB.free hiq Q
              have hsn := bmI_succ nb q (by rw [← hQ]; exact hQn)
              rw [← hQ, ← hr] at hsn
              have hst := hiq.set Q (UInt8.ofNat (2 ^ (r + 1) - 1))
              rw [← hsn] at hst
              have HST := Lib.hid hst
              have HBQ2 := Lib.hid (hbq.setCell (p := ⟨gb, Q, none⟩) (Nat.le_refl _) (.int .u8 ((UInt8.ofNat (2 ^ (r + 1) - 1)).toNat : Int)))
              have hr8 : r < 8 := by omega
              clear hiq hbq hql hsn hst hQ hr
              unfold bv at gc
              rcases (by omega : r = 0 ∨ r = 1 ∨ r = 2 ∨ r = 3 ∨ r = 4 ∨ r = 5 ∨ r = 6 ∨ r = 7) with rfl | rfl | rfl | rfl | rfl | rfl | rfl | rfl
              · have gc' : wr.cell? ⟨gb, Q, none⟩ = some (.int .u8 0) := gc
                have x3' : (q : Int) % 8 = 0 := x3
                have x4' : (q : Int).tmod 8 = 0 := x4
                have eb : bits .or .u8 0 1 = ((UInt8.ofNat (2 ^ (0 + 1) - 1)).toNat : Int) := by decide
                rw [← eb] at HST HBQ2
                clear gc x3 x4 eb
                go_wp2
                exact ⟨⟨q + 1, by omega, by go_num, HST.out, HBQ2.out⟩, by simp [intOf]; omega⟩
              · have gc' : wr.cell? ⟨gb, Q, none⟩ = some (.int .u8 1) := gc
                have x3' : (q : Int) % 8 = 1 := x3
                have x4' : (q : Int).tmod 8 = 1 := x4
                have eb : bits .or .u8 1 2 = ((UInt8.ofNat (2 ^ (1 + 1) - 1)).toNat : Int) := by decide
                rw [← eb] at HST HBQ2
                clear gc x3 x4 eb
                go_wp2
                exact ⟨⟨q + 1, by omega, by go_num, HST.out, HBQ2.out⟩, by simp [intOf]; omega⟩
              · have gc' : wr.cell? ⟨gb, Q, none⟩ = some (.int .u8 3) := gc
                have x3' : (q : Int) % 8 = 2 := x3
                have x4' : (q : Int).tmod 8 = 2 := x4
                have eb : bits .or .u8 3 4 = ((UInt8.ofNat (2 ^ (2 + 1) - 1)).toNat : Int) := by decide
                rw [← eb] at HST HBQ2
                clear gc x3 x4 eb
                go_wp2
                exact ⟨⟨q + 1, by omega, by go_num, HST.out, HBQ2.out⟩, by simp [intOf]; omega⟩
              · have gc' : wr.cell? ⟨gb, Q, none⟩ = some (.int .u8 7) := gc
                have x3' : (q : Int) % 8 = 3 := x3
                have x4' : (q : Int).tmod 8 = 3 := x4
                have eb : bits .or .u8 7 8 = ((UInt8.ofNat (2 ^ (3 + 1) - 1)).toNat : Int) := by decide
                rw [← eb] at HST HBQ2
                clear gc x3 x4 eb
                go_wp2
                exact ⟨⟨q + 1, by omega, by go_num, HST.out, HBQ2.out⟩, by simp [intOf]; omega⟩
              · have gc' : wr.cell? ⟨gb, Q, none⟩ = some (.int .u8 15) := gc
                have x3' : (q : Int) % 8 = 4 := x3
                have x4' : (q : Int).tmod 8 = 4 := x4
                have eb : bits .or .u8 15 16 = ((UInt8.ofNat (2 ^ (4 + 1) - 1)).toNat : Int) := by decide
                rw [← eb] at HST HBQ2
                clear gc x3 x4 eb
                go_wp2
                exact ⟨⟨q + 1, by omega, by go_num, HST.out, HBQ2.out⟩, by simp [intOf]; omega⟩
              · have gc' : wr.cell? ⟨gb, Q, none⟩ = some (.int .u8 31) := gc
                have x3' : (q : Int) % 8 = 5 := x3
                have x4' : (q : Int).tmod 8 = 5 := x4
                have eb : bits .or .u8 31 32 = ((UInt8.ofNat (2 ^ (5 + 1) - 1)).toNat : Int) := by decide
                rw [← eb] at HST HBQ2
                clear gc x3 x4 eb
                go_wp2
                exact ⟨⟨q + 1, by omega, by go_num, HST.out, HBQ2.out⟩, by simp [intOf]; omega⟩
              · have gc' : wr.cell? ⟨gb, Q, none⟩ = some (.int .u8 63) := gc
                have x3' : (q : Int) % 8 = 6 := x3
                have x4' : (q : Int).tmod 8 = 6 := x4
                have eb : bits .or .u8 63 64 = ((UInt8.ofNat (2 ^ (6 + 1) - 1)).toNat : Int) := by decide
                rw [← eb] at HST HBQ2
                clear gc x3 x4 eb
                go_wp2
                exact ⟨⟨q + 1, by omega, by go_num, HST.out, HBQ2.out⟩, by simp [intOf]; omega⟩
              · have gc' : wr.cell? ⟨gb, Q, none⟩ = some (.int .u8 127) := gc
                have x3' : (q : Int) % 8 = 7 := x3
                have x4' : (q : Int).tmod 8 = 7 := x4
                have eb : bits .or .u8 127 128 = ((UInt8.ofNat (2 ^ (7 + 1) - 1)).toNat : Int) := by decide
                rw [← eb] at HST HBQ2
                clear gc x3 x4 eb
                go_wp2
                exact ⟨⟨q + 1, by omega, by go_num, HST.out, HBQ2.out⟩, by simp [intOf]; omega⟩
            · obtain rfl : q = A4 := by omega
              have HIQ := Lib.hid hiq
              have HBQ3 := Lib.hid hbq
              clear hiq hbq
              have hA3 := HA3.out
              have hnb := HNB.out
              have hM := HM.out
              have hsz6 : w1.heap.size ≤ w6.heap.size := by have := HCW3.out.size; have := HC4.out.size; have := HBQ.out.size; have := HC5.out.size; have := HC6.out.size; omega
              have hgbg : gb ≠ g := by have := HGB.out; omega
              have hb6 : Below w6.heap.size w6 wr := HGB.out ▸ HBQ3.out
              have hi8 := HI6.out.below hb6
              have hrd := HIQ.out.rd.1
              have hk8 := (hb6.block b11 (by omega)).trans HK6.out
              have HK8 := Lib.hid hk8
              have HB6 := Lib.hid hb6
              have HBL2 := Lib.hid (blob_any b9 g L L np A3 (blobI img t A2) (bmI nb q) (some ⟨gb, 0, none⟩) nb nb (A3 : Int) wr hi8 hrd (Nat.le_refl _) (by have := HL.out; omega) hnp2 (by omega) (by omega) (by rw [← HN2.out]; omega) (by omega) (by rw [if_neg (by omega)]))
              clear hA3 hnb hM hb6 hi8 hrd hk8
              go_wp2_with fail
              refine HBL2.out.mono ?_
              rintro e w10 ⟨rfl, hi10, hc10⟩
              have hk10 := (hc10.block b11 (lt_of_block HK8.out) hb11g).trans HK8.out
              have gk := cell_blk hk10
              have fk := free_blk hk10
              have HK10 := Lib.hid hk10
              have HI10 := Lib.hid hi10
              have HC10 := Lib.hid hc10
              clear hk10 hi10 hc10
              go_upto_region 34 with (fail)
              obtain ⟨w11, hw11⟩ : ∃ w11, w11 = w10.setCell ⟨b11, 7, none⟩ (.int .i64 (A3 : Int)) := ⟨_, rfl⟩
              rw [← hw11]
              obtain ⟨y, hy⟩ : ∃ y, y = supI np gen R H S t A2 := ⟨_, rfl⟩
              have hyv : supV y = .agg #[.int .i64 (1 + (F : Int)), .int .i64 (np : Int), .int .i64 (R : Int), .int .i64 (H : Int), .int .i64 SC, .int .i64 SD, .int .i64 F1, .int .i64 (A3 : Int)] := by
                rw [hy, supV, supI, hFe, HT.out.1, ← HN1.out, ← HA3.out, ← HX.out, ← HSC.out, ← HSD.out, ← HF1.out]
              have hych : y.chk = 0 := by
                rw [hy]
                exact supI_chk np S t gen R H A2 img hg (by omega) (by rw [HT.out.1]; exact hnT) (by omega) (by rw [HT.out.1, ← HN1.out]; omega) hnp2 HGW.out ⟨hA, by have := HM.out; omega⟩
              have hk11 : w11.heap[b11]? = some (.cells #[.int .i64 (1 + (F : Int)), .int .i64 (np : Int), .int .i64 (R : Int), .int .i64 (H : Int), .int .i64 SC, .int .i64 SD, .int .i64 F1, .int .i64 (A3 : Int)] 25 (0, 0)) := by rw [hw11]; exact blk_setCell HK10.out 7 _
              have hc11 : Chg (fun j => j = b11) w10 w11 := by rw [hw11]; exact setCell_chg _ _ _ _
              have henc := renc_ok y w11 hych
              rw [hyv] at henc
              have HENC := Lib.hid henc
              have HK11b := Lib.hid hk11
              have HC11 := Lib.hid hc11
              have HI11 := Lib.hid (HI10.out.chg hc11 (fun e => hb11g e.symm))
              have HY := Lib.hid hy
              have HYV := Lib.hid hyv
              have HYC := Lib.hid hych
              clear gk fk hw11 hy hyv hych hc11 henc
              have gk := cell_blk hk11
              clear hk11
              go_wp2_with fail
              refine HENC.out.mono ?_
              rintro e w12 ⟨v12, rfl, ho12, hb12⟩
              have hpl : y.page.length = 256 := by
                unfold P.Sup.page
                rw [if_pos HYC.out, P.page_length _ _ _ _ (by rw [y.body_length]; omega)]
              obtain ⟨a12, c12, hv12, hr12, -, hq12, -⟩ := ho12.form
              rw [hpl] at hv12 hr12
              subst hv12
              have hk12 := (hb12.block b11 (lt_of_block HK11b.out)).trans HK11b.out
              have HLAY := Lib.hid (show Calls Tryz.prog 18 #[.slice (some ⟨g, 0, none⟩) L L, .int .i64 0, .slice a12 256 c12] w12 _ from ilay_any b9 g L L 0 _ a12 256 c12 y.page w12 (HI11.out.below hb12) hr12 (fun q e => by have := (hq12 q e).1; have := HI11.out.ge.2; omega) (by have := HL.out; omega) (by have := HL.out; omega))
              have HB12 := Lib.hid hb12
              have HK12 := Lib.hid hk12
              clear ho12 hb12 hr12 hq12 hk12 hpl gk
              go_wp2_with fail
              refine (first_any _ _ _ _ _).mono ?_
              rintro e w13 ⟨rfl, rfl⟩
              go_wp2_with fail
              refine HLAY.out.mono ?_
              rintro e w14 ⟨rfl, hi14, hc14⟩
              have hk14 := (hc14.block b11 (lt_of_block HK12.out) hb11g).trans HK12.out
              have hc3 : Chg (fun j => j = g ∨ j = b11) w1 w14 := by
                refine (((((((((HCW3.out.mono ?_).trans (HC4.out.mono ?_)).trans (HBQ.out.mono ?_)).trans (HC5.out.mono ?_)).trans (HC6.out.mono ?_)).trans (Chg.of_below HB6.out _)).trans (HC10.out.mono ?_)).trans (HC11.out.mono ?_)).trans (Chg.of_below HB12.out _)).trans (hc14.mono ?_)
                all_goals (intro i hi e; first | exact .inl e | exact .inr e)
              have hk9 := (hc3.block b9 hb9l (by omega)).trans HK9.out
              have hbw : Below w.heap.size w w14 := below_chg HB1.out hc3 (by have := HSZ.out; omega) (fun i e => by have := HB11.out; rcases e with e | e <;> omega)
              have hkd : w14.drew.heap[b11]? = _ := hk14
              have hkd9 : w14.drew.heap[b9]? = _ := hk9
              have gk := cell_blk hkd
              have fk9 := free_blk hkd9
              have gk9 := cell_blk hkd9
              have HK9b := Lib.hid hk9
              have HI14 := Lib.hid hi14
              have HBW := Lib.hid hbw
              clear hk14 hc3 hk9 hbw hkd hkd9 hi14 hc14
              go_wp2_with fail
              go_still_tail 3, (by kernel_rfl)
              change wpList _ _ _ _ _ w14.drew
              generalize hwz : w14.drew = wz at gk9 fk9 ⊢
              clear gk
              go_wp2_with fail
              have hk9z : wz.heap[b9]? = some (.cells #[.int .i64 0, .int .i64 0, .int .i64 0, .int .i64 0, .int .i64 0, .int .i64 0, .int .i64 0, .int .i64 0] 25 (0, 0)) := by rw [← hwz]; exact HK9b.out
              have cl9 := cell_blk (blk8b hk9z (.int .i64 (1 + (F : Int))) (.int .i64 (np : Int)) (.int .i64 (R : Int)) (.int .i64 (H : Int)) (.int .i64 SC) (.int .i64 SD) (.int .i64 F1) (.int .i64 (A3 : Int)))
              have hc9z := chg8b (Chg.refl (fun j => j = b9) wz) (.inr rfl) (.int .i64 (1 + (F : Int))) (.int .i64 (np : Int)) (.int .i64 (R : Int)) (.int .i64 (H : Int)) (.int .i64 SC) (.int .i64 SD) (.int .i64 F1) (.int .i64 (A3 : Int))
              have hiz := HI14.out.below (show Below w14.heap.size w14 wz by rw [← hwz]; exact ⟨rfl, rfl, rfl, Nat.le_refl _, fun _ _ => rfl⟩)
              have hbz : Below w.heap.size w wz := by rw [← hwz]; exact ⟨HBW.out.os, HBW.out.tape, HBW.out.output, HBW.out.size, HBW.out.block⟩
              have hif := hiz.chg hc9z (fun e => hb9g e.symm)
              have hbf := below_chg hbz hc9z (by have := hbz.size; omega) (fun i e => by have := HB9.out; omega)
              refine bodyPost_ret (v := .tuple #[.slice (some ⟨g, 0, none⟩) L L, .agg #[.int .i64 (1 + (F : Int)), .int .i64 (np : Int), .int .i64 (R : Int), .int .i64 (H : Int), .int .i64 SC, .int .i64 SD, .int .i64 F1, .int .i64 (A3 : Int)]]) (by simp [results, Tryz.results8, go_sem, cl9]) rfl ?_
              refine ⟨g, R, H, A2, img, HGW.out, ⟨hR, hH, hA, by have := HM.out; omega⟩, ?_, ?_, hbf⟩
              · rw [← HY.out, HYV.out, ← HL.out]
              · rw [← HL.out, ← HB9.out]
                unfold bldI
                rw [← HY.out, HT.out.1, ← HN1.out, ← HA3.out, ← HNB.out, ← HN2.out, ← HA4.out]
                exact hif
end Go.Proofs.YtnjpaanjgbfbaaaGreat
