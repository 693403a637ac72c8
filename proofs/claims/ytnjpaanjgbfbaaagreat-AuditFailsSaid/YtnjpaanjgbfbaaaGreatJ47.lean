/- The law of chapter 12: pages of a chain laid into an image. -/
import Derived.Test.YtnjpaanjgbfbaaaGreatJ46
import Derived.Test.YtnjpaanjgbfbaaaGreatJ45
import Derived.Test.YtnjpaanjgbfbaaaGreatJ13
import Derived.Test.YtnjpaanjgbfbaaaGreatJ09
namespace Go.Proofs.YtnjpaanjgbfbaaaGreat
set_option linter.unusedVariables false
set_option linter.unusedSimpArgs false
open Go.RowKit

/-- Pages laid one behind the other. -/
def layN : List UInt8 → Nat → List (List UInt8) → List UInt8
  | img, _, [] => img
  | img, A, p :: ps => layN (layAt img (A * 256) p) (A + 1) ps
theorem layN_snoc (img : List UInt8) (A : Nat) (ps : List (List UInt8)) (p : List UInt8) : layN img A (ps ++ [p]) = layAt (layN img A ps) ((A + ps.length) * 256) p := by
  induction ps generalizing img A with
  | nil => rfl
  | cons q ps ih =>
    show layN _ _ (ps ++ [p]) = _
    rw [ih]
    show layAt _ ((A + 1 + ps.length) * 256) p = layAt _ ((A + (ps.length + 1)) * 256) p
    rw [show A + 1 + ps.length = A + (ps.length + 1) from by omega]
    rfl
theorem layN_length (img : List UInt8) (np A : Nat) (ps : List (List UInt8)) (hl : img.length = 256 * np) (hp : ∀ p ∈ ps, p.length = 256) (hA : A + ps.length ≤ np) : (layN img A ps).length = 256 * np := by
  induction ps generalizing img A with
  | nil => exact hl
  | cons q ps ih =>
    have hq := hp q (by simp)
    simp only [List.length_cons] at hA
    exact ih _ _ (by rw [layAt_length _ _ _ (by omega), hl]) (fun p h => hp p (by simp [h])) (by omega)
theorem pg_layN (img : List UInt8) (np A : Nat) (ps : List (List UInt8)) (hl : img.length = 256 * np) (hp : ∀ p ∈ ps, p.length = 256) (hA : A + ps.length ≤ np) (m : Nat) (hm : m < np) :
    P.pg (layN img A ps) m = if A ≤ m then ps.getD (m - A) (P.pg img m) else P.pg img m := by
  induction ps generalizing img A with
  | nil => simp [layN]
  | cons q ps ih =>
    have hq := hp q (by simp)
    simp only [List.length_cons] at hA
    show P.pg (layN (layAt img (A * 256) q) (A + 1) ps) m = _
    rw [ih _ _ (by rw [layAt_length _ _ _ (by omega), hl]) (fun p h => hp p (by simp [h])) (by omega), pg_lay img np A q hl hq (by omega) m hm]
    by_cases h1 : m = A
    · subst h1
      rw [if_neg (by omega), if_pos rfl, if_pos (Nat.le_refl _)]
      simp
    · rw [if_neg h1]
      by_cases h2 : A ≤ m
      · rw [if_pos (by omega), if_pos h2, show m - A = m - (A + 1) + 1 from by omega]
        rfl
      · rw [if_neg (by omega), if_neg h2]
theorem cutTo_page (b : List UInt8) (l : List Int) (n : Nat) : ∀ p ∈ P.cutTo b l n, p.length = 256 := by
  intro p hp
  simp only [P.cutTo, List.mem_map] at hp
  obtain ⟨i, -, rfl⟩ := hp
  refine P.page_length _ _ _ _ ?_
  unfold P.cutBody P.part
  rw [List.length_append, P.be_length, List.length_take]
  omega
/-- The image with a chain of the bytes t from page A on. -/
def blobI (img t : List UInt8) (A : Nat) : List UInt8 := layN img A (P.cutTo t (P.lst (A : Int) 1 (P.needN t.length)) (P.needN t.length))
theorem OL.atB {w : World} {n : Nat} {a : Option Addr} {m c : Nat} {L : List (List UInt8)} (h : OL w n (.slice a m c) L) (i : Nat) (hi : i < L.length) : ∃ p u, a = some p ∧ w.cell? (p.add i) = some u ∧ OB w n u L[i] := by
  obtain ⟨vs, h1, h2, h3⟩ := h
  obtain ⟨a', c', e, hr, -, -⟩ := h1.form
  cases e
  obtain ⟨p, hp, hcell⟩ := hr.at i (by omega)
  exact ⟨p, vs[i], hp, hcell, h3 i vs[i] L[i] (List.getElem?_eq_getElem (by omega)) (List.getElem?_eq_getElem hi)⟩
theorem OL.turned {w w' : World} {n g : Nat} {v : Value} {L : List (List UInt8)} (h : OL w n v L) (hb : Chg (fun j => j = g) w w') (hg : g < n) : OL w' n v L :=
  h.kept (row := some g) ⟨hb.os, hb.tape, hb.output, hb.size, fun i hi hne => hb.block i hi (fun e => hne (by rw [e]))⟩ (fun r e => by cases e; exact .inl hg)
set_option maxRecDepth 100000 in
set_option maxHeartbeats 3200000 in
theorem blob_any (B g L c np A : Nat) (img t : List UInt8) (a : Option Addr) (n ca : Nat) (F : Int) (w : World) (h : ImgAt w B g L c img) (hr : Rd w a n t) (hc : n ≤ ca) (hL : L = 256 * np) (h4 : np ≤ 4096)
    (hn5 : n ≤ 5000) (hA2 : 2 ≤ A) (hA : A + P.needN n ≤ np) (hA3 : A ≤ 2000) (hF : F = if n = 0 then 0 else (A : Int)) :
    Calls Tryz.prog 23 #[.slice (some ⟨g, 0, none⟩) L c, .slice a n ca, .int .i64 (A : Int)] w fun e w' => e = .returned (.tuple #[.int .i64 F, .int .i64 ((A + P.needN n : Nat) : Int)]) ∧ ImgAt w' B g L c (blobI img t A) ∧ Chg (fun j => j = g) w w' := by
  have htl := hr.1
  have H := Lib.hid h
  have HR := Lib.hid hr
  have HTL := Lib.hid htl
  have hgB := h.ge
  by_cases h0 : n = 0
  case pos =>
    subst h0
    have e1 : blobI img t A = img := by
      unfold blobI
      rw [htl]
      rfl
    rw [if_pos rfl] at hF
    subst hF
    rw [e1, show A + P.needN 0 = A from rfl]
    clear h hr htl e1
    go_enter Tryz.func23, Tryz.ntmps23
    go_wp2
    go_ret2
    exact ⟨rfl, H.out, Chg.refl _ _⟩
  case neg =>
  rw [if_neg h0] at hF
  subst hF
  have hz : ((n : Int) == 0) = false := by simp; omega
  obtain ⟨N, hN⟩ : ∃ N, N = P.needN n := ⟨_, rfl⟩
  have hN2 : N ≤ 22 := by rw [hN]; unfold P.needN; omega
  have HND := Lib.hid (fun w => rneed_any (n : Int) w (by omega))
  rw [P.need_nat n, ← hN] at HND
  rw [← hN] at hA ⊢
  have hfit := P.lst_fits t (A : Int) 1 N (by omega) (by omega) (by omega) (by omega) (by rw [htl, hN]) (by omega)
  have HE := Lib.hid (P.cutErr_zero t _ hfit (by omega))
  have HCL := Lib.hid (P.cutL_to t _ hfit (by omega))
  have HBI := Lib.hid (show blobI img t A = layN img A (P.cutTo t (P.lst (A : Int) 1 N) N) by unfold blobI; rw [htl, ← hN])
  have HLN := Lib.hid hL
  clear h hr htl hfit hN hL
  go_enter Tryz.func23, Tryz.ntmps23
  go_wp2
  go_loopw [8, 9] (fun v i wr => ∃ j : Nat, j ≤ N ∧ i = .int .i64 j ∧ (∃ a n c, v = .slice a n c) ∧ OV wr w.heap.size 3 1 v j (ivs (P.lst (A : Int) 1 j)) ∧ Below w.heap.size w wr) (fun v i _ => N - (intOf i).toNat)
  case atStart => exact ⟨0, by omega, rfl, ⟨_, _, _, rfl⟩, OV.nil _ _ _ _, Below.refl _ _⟩
  case round =>
    obtain ⟨j, hj, rfl, ⟨av, nv, cv, rfl⟩, ho, hbr⟩ := hrel
    have hsn := P.lst_succ (A : Int) 1 j
    rw [Int.mul_one] at hsn
    obtain rfl : j = nv := ho.len.symm
    have HO := Lib.hid ho
    have HSN := Lib.hid hsn
    clear ho hsn
    by_cases hlt : j < N
    · have hba : Below wr.heap.size wr (wr.alloc (.cells #[.int .i64 ((A : Int) + (j : Int))] 3)) := (Below.refl _ wr).alloc (Nat.le_refl _) _
      have hrv : RV (wr.alloc (.cells #[.int .i64 ((A : Int) + (j : Int))] 3)) (some ⟨wr.heap.size, 0, none⟩) 1 1 [.int .i64 ((A : Int) + (j : Int))] := RV_lit wr 3 1 1 [.int .i64 ((A : Int) + (j : Int))] rfl (by unfold maxLen; omega)
      have hst : w.heap.size ≤ (wr.alloc (.cells #[.int .i64 ((A : Int) + (j : Int))] 3)).heap.size := by have := hbr.size; simp; omega
      have HRV := Lib.hid hrv
      have HBA := Lib.hid hba
      clear hrv hba
      go_wp2_with (first
        | (go_at_call 24; refine (HND.out _).mono ?_; rintro e w2 ⟨rfl, rfl⟩)
        | (at_builtin; refine wpList_appV intsT _ rfl _ _ rfl w.heap.size _ _ _ rfl (HO.out.below HBA.out) _ _ _ _ rfl HRV.out (fun u hu => by rw [List.mem_singleton] at hu; subst hu; rfl) ?c1 ?c2 hst ?_))
      case c1 => omega
      case c2 => omega
      intro v1 w3 hown1 hg1 hat1
      have hb1 := (below_then hbr HBA.out hbr.size).grown hg1 hst (fun r e => HO.out.base r e)
      have hown2 : OV w3 w.heap.size 3 1 v1 (j + 1) (ivs (P.lst (A : Int) 1 (j + 1))) := by
        rw [HSN.out]
        unfold ivs
        rw [List.map_append]
        exact hown1
      obtain ⟨a1, c1, rfl, -⟩ := hown2.form
      have HO1 := Lib.hid hown2
      clear hown1 hown2 hg1 hat1
      go_wp2
      go_roundw
      case rel => exact ⟨j + 1, by omega, by first | go_num | (simp; done), ⟨_, _, _, rfl⟩, HO1.out, hb1⟩
      case measure => simp [intOf]; omega
    · obtain rfl : j = N := by omega
      have hri : RI wr av j (P.lst (A : Int) 1 j) ∧ ∀ q, av = some q → q.block ≠ g := by
        obtain ⟨a', c', e, hr', -, hq, -⟩ := HO.out.form
        cases e
        exact ⟨hr', fun q e => by have := (hq q e).1; omega⟩
      obtain ⟨hri, hag⟩ := hri
      have HAG := Lib.hid hag
      clear hag
      have HRI := Lib.hid hri
      have HCUT := Lib.hid (fun w (h1 : Rd w a n t) (h2 : RI w av j (P.lst (A : Int) 1 j)) => rcut_fun a n ca t av j cv (P.lst (A : Int) 1 j) w h1 hc h2)
      rw [HE.out, HCL.out, P.lst_length] at HCUT
      have hpl := cutTo_page t (P.lst (A : Int) 1 j) j
      have hcl := P.cutTo_length t (P.lst (A : Int) 1 j) j
      have hgl := fun i h => P.lst_get (A : Int) 1 j i h
      have hll := P.lst_length (A : Int) 1 j
      obtain ⟨K, hK⟩ : ∃ K, K = P.cutTo t (P.lst (A : Int) 1 j) j := ⟨_, rfl⟩
      rw [← hK] at HCUT hpl hcl HBI
      obtain ⟨l, hl⟩ : ∃ l, l = P.lst (A : Int) 1 j := ⟨_, rfl⟩
      rw [← hl] at HCUT HRI hll
      have hgl' : ∀ i (h : i < l.length), l[i] = (A : Int) + (i : Int) := by
        rw [hl]
        intro i h
        rw [hgl i h, Int.mul_one]
      have HGL := Lib.hid hgl'
      have HPL := Lib.hid hpl
      have HKL := Lib.hid hcl
      have HLL := Lib.hid hll
      clear hgl hgl' hpl hcl hll hK hri HE HCL HO HSN
      clear hl
      have hb0 := Lib.hid hbr
      go_wp2_with fail
      refine (HND.out _).mono ?_
      rintro e w2 ⟨rfl, rfl⟩
      go_wp2_with fail
      refine (HCUT.out _ (HR.out.below hbr) HRI.out).mono ?_
      rintro e w4 ⟨v4, rfl, ho4, hb4⟩
      obtain ⟨a4, c4, hv4, -⟩ := ho4.form
      rw [HKL.out] at hv4
      subst hv4
      have HO4 := Lib.hid ho4
      clear ho4
      have hgr : g < w2.heap.size := by have := hbr.size; omega
      have HC4 := Lib.hid ((Chg.of_below hbr (fun k => k = g)).trans (Chg.of_below hb4 _))
      have HI4 := Lib.hid ((H.out.below hbr).below hb4)
      have HRI4 := Lib.hid (HRI.out.below hb4)
      clear hbr hb4
      go_wp2
      go_loopw [12] (fun i wr => ∃ k : Nat, k ≤ j ∧ i = .int .i64 k ∧ ImgAt wr B g L c (layN img A (K.take k)) ∧ Chg (fun q => q = g) w4 wr) (fun i _ => j - (intOf i).toNat)
      case atStart => exact ⟨0, by omega, rfl, by rw [List.take_zero]; exact HI4.out, Chg.refl _ _⟩
      case round =>
        obtain ⟨k, hk, rfl, him, hcr⟩ := hrel
        have i0 : (0 : Int) ≤ (k : Int) := by omega
        by_cases hkj : k < j
        · have i1 : (k : Int) < (j : Int) := by omega
          have hkK : k < K.length := by rw [HKL.out]; exact hkj
          have hkl : k < l.length := by rw [HLL.out]; exact hkj
          obtain ⟨p4, u4, rfl, hc4, ho4⟩ := (HO4.out.turned hcr hgr).atB k hkK
          have h256 := HPL.out K[k] (List.getElem_mem hkK)
          obtain ⟨a5, c5, hu5, hr5, hc5, hq5, -⟩ := ho4.form
          rw [h256] at hu5 hr5 hc5
          subst hu5
          obtain ⟨q6, rfl, hc6⟩ := RI.at (show RI wr av j l from RV.chg HRI4.out hcr (fun q e => HAG.out q e)) k hkl
          rw [HGL.out] at hc6
          obtain ⟨J, hJ⟩ : ∃ J, J = A + k := ⟨_, rfl⟩
          rw [show (A : Int) + (k : Int) = (J : Int) from by omega] at hc6
          have hdr : Below wr.heap.size wr wr.drew := ⟨rfl, rfl, rfl, Nat.le_refl _, fun _ _ => rfl⟩
          have HLAY := Lib.hid (ilay_any B g L c J (layN img A (K.take k)) a5 256 c5 K[k] wr.drew (him.below hdr) (hr5.below hdr) (fun q e => by have := (hq5 q e).1; omega) (by have := HLN.out; omega) (by have := HLN.out; omega))
          have HTS := Lib.hid (show layN img A (K.take (k + 1)) = layAt (layN img A (K.take k)) (J * 256) K[k] by
            rw [List.take_succ_eq_append_getElem hkK, layN_snoc, List.length_take, HKL.out, Nat.min_eq_left (by omega), hJ])
          have HCR := Lib.hid (hcr.trans (Chg.of_below hdr _))
          have hc4' : wr.drew.cell? (p4.add k) = _ := hc4
          have hc6' : wr.drew.cell? (q6.add k) = _ := hc6
          clear ho4 h256 hr5 hq5 hJ hcr him hdr
          go_wp2_with fail
          go_still_tail 9, (by kernel_rfl)
          go_wp2_with fail
          refine HLAY.out.mono ?_
          rintro e w7 ⟨rfl, hi7, hc7⟩
          have HI7 := Lib.hid hi7
          have HC7 := Lib.hid (HCR.out.trans hc7)
          clear hi7 hc7
          go_wp2
          exact ⟨⟨k + 1, by omega, by go_num, by rw [HTS.out]; exact HI7.out, HC7.out⟩, by simp [intOf]; omega⟩
        · obtain rfl : k = j := by omega
          rw [List.take_of_length_le (by rw [HKL.out]; exact Nat.le_refl _)] at him
          have HIM := Lib.hid him
          have HCR := Lib.hid hcr
          clear him hcr
          go_wp2
          go_ret2
          exact ⟨by go_num, by rw [HBI.out]; exact HIM.out, HC4.out.trans HCR.out⟩
end Go.Proofs.YtnjpaanjgbfbaaaGreat
/- The law of chapter 12: leaves of pieces laid into an image. Plain. -/
namespace Go.Proofs.YtnjpaanjgbfbaaaGreat
set_option linter.unusedVariables false
set_option linter.unusedSimpArgs false
open Go.RowKit

theorem qCs_drop (l : List P.Q) (i : Nat) : (qCs l).drop (i * 4) = qCs (l.drop i) := by
  induction i generalizing l with
  | zero => simp
  | succ i ih =>
    cases l with
    | nil => simp [qCs]
    | cons x l =>
      have e : qCs (x :: l) = qC x ++ qCs l := rfl
      rw [e, List.drop_append, List.drop_eq_nil_of_le (by simp [qC]; omega), List.nil_append, List.drop_succ_cons, ← ih l]
      congr 1
      simp [qC]
      omega
theorem qCs_take (l : List P.Q) (i : Nat) : (qCs l).take (i * 4) = qCs (l.take i) := by
  induction i generalizing l with
  | zero => simp [qCs]
  | succ i ih =>
    cases l with
    | nil => simp [qCs]
    | cons x l =>
      have e : qCs (x :: l) = qC x ++ qCs l := rfl
      have e2 : qCs ((x :: l).take (i + 1)) = qC x ++ qCs (l.take i) := rfl
      rw [e, e2, List.take_append, List.take_of_length_le (by simp [qC]; omega), ← ih l]
      congr 2
      simp [qC]
      omega
theorem RQ.cut {w : World} {p : Addr} {n : Nat} {l : List P.Q} (h : RQ w (some p) n l) (i m : Nat) (him : i + m ≤ n) : RQ w (some (p.add (i * 4))) m ((l.drop i).take m) := by
  have hl := h.len
  have hm := h.2.1
  have e : qCs ((l.drop i).take m) = ((qCs l).drop (i * 4)).take (m * 4) := by rw [qCs_drop, qCs_take]
  refine ⟨by rw [qCs_length, List.length_take, List.length_drop]; omega, by omega, fun j hj => ⟨_, rfl, ?_⟩⟩
  rw [qCs_length, List.length_take, List.length_drop] at hj
  obtain ⟨q, e', hq⟩ := RV.at h (i * 4 + j) (by rw [qCs_length]; omega)
  cases e'
  rw [Addr.add_add, hq]
  congr 1
  simp [e]
/-- How many pieces the next leaf takes of r. -/
def gsz (r : Nat) : Nat := if r ≤ 20 then r else if r < 30 then 10 else 20
inductive Grp (l : List P.Q) : Nat → List (List P.Q) → Prop
  | nil : Grp l 0 []
  | snoc {i : Nat} {G : List (List P.Q)} : Grp l i G → i < l.length → Grp l (i + gsz (l.length - i)) (G ++ [(l.drop i).take (gsz (l.length - i))])
theorem gsz_le (r : Nat) : gsz r ≤ r ∧ gsz r ≤ 20 ∧ (0 < r → 0 < gsz r) := by unfold gsz; split <;> (try split) <;> omega
theorem Grp.inv {l : List P.Q} {i : Nat} {G : List (List P.Q)} (h : Grp l i G) :
    i ≤ l.length ∧ (i = 20 * G.length ∧ (i = 0 ∨ 10 ≤ l.length - i) ∨ (1 ≤ G.length ∧ i = 20 * (G.length - 1) + 10 ∧ 11 ≤ l.length - i ∧ l.length - i ≤ 19) ∨ (i = l.length ∧ 1 ≤ G.length ∧ 10 * (G.length - 1) ≤ i ∧ (G.length = 1 ∨ 20 * (G.length - 2) + 21 ≤ i))) := by
  induction h with
  | nil => simp
  | @snoc i G h hi ih =>
    have hg := gsz_le (l.length - i)
    simp only [List.length_append, List.length_cons, List.length_nil]
    unfold gsz at hg ⊢
    split <;> (try split) <;> omega
theorem Grp.flat {l : List P.Q} {i : Nat} {G : List (List P.Q)} (h : Grp l i G) : G.flatten = l.take i := by
  induction h with
  | nil => simp
  | @snoc i G h hi ih =>
    rw [List.flatten_append, ih, List.take_add]
    simp
theorem Grp.small {l : List P.Q} {i : Nat} {G : List (List P.Q)} (h : Grp l i G) (hl : l.length ≤ 150) (hi : i < l.length) : G.length ≤ 7 := by
  have h1 := h.inv
  omega
/-- The kids of the leaves. -/
def kidOf (A : Nat) (g : List P.Q) : P.Q := ⟨(A : Int), (g.length : Int), (g.map (·.c)).sum, (g.map (·.d)).sum⟩
def kidsOf : Nat → List (List P.Q) → List P.Q
  | _, [] => []
  | A, g :: G => kidOf A g :: kidsOf (A + 1) G
theorem kidsOf_snoc (A : Nat) (G : List (List P.Q)) (g : List P.Q) : kidsOf A (G ++ [g]) = kidsOf A G ++ [kidOf (A + G.length) g] := by
  induction G generalizing A with
  | nil => rfl
  | cons x G ih =>
    show kidOf A x :: kidsOf (A + 1) (G ++ [g]) = _
    rw [ih, show A + 1 + G.length = A + (G.length + 1) from by omega]
    rfl
theorem kidsOf_length (A : Nat) (G : List (List P.Q)) : (kidsOf A G).length = G.length := by
  induction G generalizing A with
  | nil => rfl
  | cons x G ih => simp [kidsOf, ih]
theorem OV.turned {w w' : World} {n g : Nat} {t : TypeId} {s : Nat} {v : Value} {m : Nat} {l : List Value} (h : OV w n t s v m l) (hb : Chg (fun j => j = g) w w') (hg : g < n) : OV w' n t s v m l :=
  h.kept' (row := some g) ⟨hb.os, hb.tape, hb.output, hb.size, fun i hi hne => hb.block i hi (fun e => hne (by rw [e]))⟩ (fun r e => by cases e; exact .inl hg)
/-- The image with the leaves (and the inner page above them). -/
def growI (img : List UInt8) (A : Nat) (G : List (List P.Q)) : List UInt8 := if G.length = 1 then layN img A (G.map P.leafB) else layN img A (G.map P.leafB ++ [P.innB 1 (kidsOf A G)])
def GrowEnd (B g L c A : Nat) (img : List UInt8) (l : List P.Q) (w : World) (e : Ending) (w' : World) : Prop :=
  ∃ G, Grp l l.length G ∧ e = .returned (.tuple #[.int .i64 ((if G.length = 1 then A else A + G.length : Nat) : Int), .int .i64 ((if G.length = 1 then 1 else 2 : Nat) : Int), .int .i64 ((if G.length = 1 then A + 1 else A + G.length + 1 : Nat) : Int)]) ∧ ImgAt w' B g L c (growI img A G) ∧ Chg (fun j => j = g) w w'
theorem sum_take {f : P.Q → Int} (l : List P.Q) (k : Nat) (hk : k < l.length) : ((l.take (k + 1)).map f).sum = ((l.take k).map f).sum + f l[k] := by
  rw [List.take_succ_eq_append_getElem hk, List.map_append, List.sum_append]
  simp
theorem sum_bound {f : P.Q → Int} (l : List P.Q) (hl : ∀ q ∈ l, 0 ≤ f q ∧ f q ≤ 1000) : 0 ≤ (l.map f).sum ∧ (l.map f).sum ≤ 1000 * l.length := by
  induction l with
  | nil => simp
  | cons x l ih =>
    have h1 := hl x (by simp)
    have h2 := ih (fun q h => hl q (by simp [h]))
    simp only [List.map_cons, List.sum_cons, List.length_cons]
    omega
theorem leafB_len (l : List P.Q) (h : P.leafErr l = 0) : (P.leafB l).length = 256 := P.openErr_len _ (P.pcErr_zero (P.leaf_back l h).1).1
theorem innB_len (v : Int) (l : List P.Q) (h : P.innErr v l = 0) : (P.innB v l).length = 256 := P.openErr_len _ (P.kdErr_zero (P.inn_back v l h).1).1
theorem txtB_len (t : List UInt8) (h : P.txtErr t = 0) : (P.txtB t).length = 256 := P.openErr_len _ (P.txErr_zero (P.txt_back t h).1).1
theorem leafB_le (l : List P.Q) : (P.leafB l).length ≤ 256 := by
  by_cases h : P.leafErr l = 0
  · rw [leafB_len l h]; exact Nat.le_refl _
  · unfold P.leafB; rw [if_neg h]; simp
theorem innB_le (v : Int) (l : List P.Q) : (P.innB v l).length ≤ 256 := by
  by_cases h : P.innErr v l = 0
  · rw [innB_len v l h]; exact Nat.le_refl _
  · unfold P.innB; rw [if_neg h]; simp
theorem txtB_le (t : List UInt8) : (P.txtB t).length ≤ 256 := by
  by_cases h : P.txtErr t = 0
  · rw [txtB_len t h]; exact Nat.le_refl _
  · unfold P.txtB; rw [if_neg h]; simp
theorem chg_grown {S : Nat → Prop} {a b c : World} {row : Option Nat} (h : Chg S a b) (hg : b.grownBy c row) (hr : ∀ r, row = some r → a.heap.size ≤ r) : Chg S a c :=
  h.then (T := fun k => row = some k) ⟨hg.os, hg.tape, hg.output, hg.size, fun i hi hne => hg.block i hi (fun e => hne e.symm)⟩ (fun i hi e => by have := hr i e; omega)
theorem ImgAt.grown {w w' : World} {B g L c : Nat} {img : List UInt8} {row : Option Nat} (h : ImgAt w B g L c img) (hg : w.grownBy w' row) (hr : ∀ r, row = some r → r ≠ g) : ImgAt w' B g L c img :=
  h.chg (S := fun k => row = some k) ⟨hg.os, hg.tape, hg.output, hg.size, fun i hi hne => hg.block i hi (fun e => hne e.symm)⟩ (fun e => hr g e rfl)
theorem grow_nil (g L c A : Nat) (a : Option Addr) (ca : Nat) (w : World) :
    Calls Tryz.prog 22 #[.slice (some ⟨g, 0, none⟩) L c, .slice a 0 ca, .int .i64 (A : Int)] w fun e w' => e = .returned (.tuple #[.int .i64 0, .int .i64 0, .int .i64 (A : Int)]) ∧ w' = w := by
  go_enter Tryz.func22, Tryz.ntmps22
  go_wp2
  go_ret3
  exact ⟨rfl, rfl⟩
end Go.Proofs.YtnjpaanjgbfbaaaGreat
