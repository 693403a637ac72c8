/- The law of chapter 12: pages laid into an image. -/
import Derived.Test.YtnjpaanjgbfbaaaGreatJ44
namespace Go.Proofs.YtnjpaanjgbfbaaaGreat
set_option linter.unusedVariables false
set_option linter.unusedSimpArgs false
open Go.RowKit

/-- An image with bytes laid from a place on. -/
def layAt (img : List UInt8) (at_ : Nat) (p : List UInt8) : List UInt8 := img.take at_ ++ (p ++ img.drop (at_ + p.length))
theorem layAt_length (img : List UInt8) (at_ : Nat) (p : List UInt8) (h : at_ + p.length ≤ img.length) : (layAt img at_ p).length = img.length := by
  simp [layAt]
  omega
theorem layAt_nil (img : List UInt8) (at_ : Nat) : layAt img at_ [] = img := by simp [layAt]
theorem layAt_snoc (img : List UInt8) (at_ : Nat) (p : List UInt8) (c : UInt8) (h : at_ + p.length < img.length) : layAt img at_ (p ++ [c]) = (layAt img at_ p).set (at_ + p.length) c := by
  unfold layAt
  rw [List.set_append_right _ _ (by simp; omega), List.set_append_right _ _ (by simp; omega)]
  have e1 : at_ + p.length - (img.take at_).length - p.length = 0 := by simp; omega
  rw [e1, List.append_assoc]
  congr 2
  have e2 : at_ + (p ++ [c]).length = at_ + p.length + 1 := by simp; omega
  rw [e2, List.drop_eq_getElem_cons (l := img) (i := at_ + p.length) h]
  rfl
theorem layAt_getD (img : List UInt8) (at_ : Nat) (p : List UInt8) (h : at_ + p.length ≤ img.length) (i : Nat) (hi : i < img.length) :
    (layAt img at_ p)[i]'(by rw [layAt_length _ _ _ h]; exact hi) = if hp : at_ ≤ i ∧ i < at_ + p.length then p[i - at_]'(by omega) else img[i] := by
  unfold layAt
  by_cases h1 : i < at_
  · rw [dif_neg (by omega), List.getElem_append_left (by simp; omega)]
    simp
  · by_cases h2 : i < at_ + p.length
    · rw [dif_pos ⟨by omega, h2⟩, List.getElem_append_right (by simp; omega), List.getElem_append_left (by simp; omega)]
      simp
      congr 1
      omega
    · rw [dif_neg (by omega), List.getElem_append_right (by simp; omega), List.getElem_append_right (by simp; omega)]
      simp
      congr 1
      omega
theorem layAt_get? (img : List UInt8) (at_ : Nat) (p : List UInt8) (h : at_ + p.length ≤ img.length) (j : Nat) : (layAt img at_ p)[j]? = if at_ ≤ j ∧ j < at_ + p.length then p[j - at_]? else img[j]? := by
  rcases Nat.lt_or_ge j img.length with hj | hj
  · have hl := layAt_length img at_ p h
    rw [List.getElem?_eq_getElem (by rw [hl]; exact hj), layAt_getD img at_ p h j hj]
    by_cases hp : at_ ≤ j ∧ j < at_ + p.length
    · rw [dif_pos hp, if_pos hp, List.getElem?_eq_getElem]
    · rw [dif_neg hp, if_neg hp, List.getElem?_eq_getElem]
  · have hl := layAt_length img at_ p h
    rw [List.getElem?_eq_none (by rw [hl]; exact hj), if_neg (by omega), List.getElem?_eq_none hj]
theorem pg_get? (img : List UInt8) (m i : Nat) (hi : i < 256) : (P.pg img m)[i]? = img[256 * m + i]? := by
  unfold P.pg
  rw [List.getElem?_take, if_pos hi, List.getElem?_drop]
set_option maxRecDepth 100000 in
/-- The page that was laid, and the others. -/
theorem pg_lay (img : List UInt8) (np n : Nat) (p : List UInt8) (hl : img.length = 256 * np) (hp : p.length = 256) (hn : n < np) (m : Nat) (hm : m < np) : P.pg (layAt img (n * 256) p) m = if m = n then p else P.pg img m := by
  have hle : n * 256 + p.length ≤ img.length := by omega
  have hll := layAt_length img (n * 256) p hle
  apply List.ext_getElem?
  intro i
  rcases Nat.lt_or_ge i 256 with hi | hi
  · rw [pg_get? _ _ _ hi, layAt_get? _ _ _ hle]
    by_cases e : m = n
    · subst e
      have hc : m * 256 ≤ 256 * m + i ∧ 256 * m + i < m * 256 + p.length := by rw [hp]; constructor <;> omega
      have hs : 256 * m + i - m * 256 = i := by omega
      rw [if_pos hc, if_pos rfl, hs]
    · rw [if_neg (by omega), if_neg e, pg_get? _ _ _ hi]
  · rw [List.getElem?_eq_none (by rw [pg_length _ np m (by rw [hll]; exact hl) hm]; exact hi), List.getElem?_eq_none]
    by_cases e : m = n
    · rw [if_pos e, hp]; exact hi
    · rw [if_neg e, pg_length img np m hl hm]; exact hi
/-- Block g is an image: a row of bytes of the law's own. -/
def ImgAt (w : World) (B g L c : Nat) (img : List UInt8) : Prop := OB w B (.slice (some ⟨g, 0, none⟩) L c) img
theorem ImgAt.len {w : World} {B g L c : Nat} {img : List UInt8} (h : ImgAt w B g L c img) : img.length = L := (OB.len h).symm
theorem ImgAt.ge {w : World} {B g L c : Nat} {img : List UInt8} (h : ImgAt w B g L c img) : B ≤ g ∧ g < w.heap.size := by
  obtain ⟨a, cp, e, -, -, hb, -⟩ := OB.form h
  injection e with e1 e2 e3
  have := hb _ e1.symm
  exact ⟨this.1, this.2.1⟩
theorem ImgAt.below {w w' : World} {B g L c : Nat} {img : List UInt8} (h : ImgAt w B g L c img) (hb : Below w.heap.size w w') : ImgAt w' B g L c img := OB.below h hb
theorem ImgAt.chg {S : Nat → Prop} {w w' : World} {B g L c : Nat} {img : List UInt8} (h : ImgAt w B g L c img) (hc : Chg S w w') (hg : ¬ S g) : ImgAt w' B g L c img := OB.chg h hc (fun k hk => by
  simp [Value.ownBlock] at hk
  exact hk ▸ hg)
theorem ImgAt.rd {w : World} {B g L c : Nat} {img : List UInt8} (h : ImgAt w B g L c img) : Rd w (some ⟨g, 0, none⟩) L img ∧ L ≤ c := by
  obtain ⟨a, cp, e, hr, hc, -⟩ := OB.form h
  injection e with e1 e2 e3
  rw [e1, e2, e3]
  exact ⟨hr, hc⟩
theorem ImgAt.set {w : World} {B g L c : Nat} {img : List UInt8} (h : ImgAt w B g L c img) (j : Nat) (x : UInt8) : ImgAt (w.setCell ⟨g, j, none⟩ (.int .u8 (x.toNat : Int))) B g L c (img.set j x) := OB.stored h j x
set_option maxRecDepth 100000 in
set_option maxHeartbeats 1600000 in
theorem ilay_any (B g L c n : Nat) (img : List UInt8) (a : Option Addr) (m cp : Nat) (p : List UInt8) (w : World) (h : ImgAt w B g L c img) (hr : Rd w a m p) (hne : ∀ q, a = some q → q.block ≠ g) (hL : L ≤ 1048576) (hn : n * 256 + m ≤ L) :
    Calls Tryz.prog 18 #[.slice (some ⟨g, 0, none⟩) L c, .int .i64 (n : Int), .slice a m cp] w fun e w' => e = .returned (.tuple #[]) ∧ ImgAt w' B g L c (layAt img (n * 256) p) ∧ Chg (fun j => j = g) w w' := by
  have hpl := hr.1
  have H := Lib.hid h
  have HR := Lib.hid hr
  have HNE := Lib.hid hne
  have HPL := Lib.hid hpl
  have HIL := Lib.hid h.len
  obtain ⟨N, hN⟩ : ∃ N, N = n * 256 := ⟨_, rfl⟩
  have HN := Lib.hid hN
  rw [← hN] at hn ⊢
  have n1 : (n : Int) * 256 = (N : Int) := by omega
  have n2 : (N : Int) ≤ 1048576 := by omega
  have n3 : (m : Int) ≤ 1048576 := by omega
  clear h hr hne hpl hN
  go_enter Tryz.func18, Tryz.ntmps18
  go_wp2_with fail
  go_loopw [6] (fun i wr => ∃ k : Nat, k ≤ m ∧ i = .int .i64 k ∧ ImgAt wr B g L c (layAt img N (p.take k)) ∧ Chg (fun j => j = g) w wr) (fun i _ => m - (intOf i).toNat)
  case atStart => exact ⟨0, by omega, rfl, by rw [List.take_zero, layAt_nil]; exact H.out, Chg.refl _ _⟩
  case round =>
    obtain ⟨k, hk, rfl, him, hcr⟩ := hrel
    have HIM := Lib.hid him
    have HCR := Lib.hid hcr
    by_cases hlt : k < m
    · have hkl : k < p.length := by rw [HPL.out]; exact hlt
      obtain ⟨q, rfl, hcell⟩ := (HR.out.chg hcr (fun q e => HNE.out q e)).at k hkl
      unfold bv at hcell
      obtain ⟨x, hx⟩ : ∃ x, x = p[k] := ⟨_, rfl⟩
      rw [← hx] at hcell
      obtain ⟨J, hJ⟩ : ∃ J, J = N + k := ⟨_, rfl⟩
      have j1 : (N : Int) + (k : Int) = (J : Int) := by omega
      have j2 : (J : Int) < (L : Int) := by omega
      have j3 : (0 : Int) ≤ (J : Int) := by omega
      have i0 : (0 : Int) ≤ (k : Int) := by omega
      have i1 : (k : Int) < (m : Int) := by omega
      have hjl : J < (layAt img N (p.take k)).length := by rw [him.len]; omega
      have gc : wr.cell? ⟨g, J, none⟩ = some (bv (layAt img N (p.take k))[J]) := OB.cell him J hjl
      have gf : wr.frozen? ⟨g, J, none⟩ = false := OB.free him J
      generalize bv (layAt img N (p.take k))[J] = bx at gc
      have HTS := Lib.hid (show layAt img N (p.take (k + 1)) = (layAt img N (p.take k)).set J x by
        rw [List.take_succ_eq_append_getElem hkl, layAt_snoc _ _ _ _ (by rw [List.length_take, HIL.out]; omega), ← hx]
        congr 1
        rw [List.length_take]
        omega)
      have HSET := Lib.hid (him.set J x)
      have HC := Lib.hid (hcr.trans (setCell_chg wr g J (.int .u8 (x.toNat : Int))))
      clear him hcr hx hJ hjl
      go_wp2
      exact ⟨⟨k + 1, by omega, by go_num, by rw [HTS.out]; exact HSET.out, HC.out⟩, by simp [intOf]; omega⟩
    · obtain rfl : k = m := by omega
      rw [List.take_of_length_le (by rw [HPL.out]; exact Nat.le_refl _)] at HIM
      clear him hcr
      go_wp2
      go_end0
      exact ⟨rfl, HIM.out, HCR.out⟩
theorem first_any (a : Option Addr) (n c : Nat) (x : Int) (w : World) : Calls Tryz.prog 19 #[.slice a n c, .int .i64 x] w fun e w' => e = .returned (.slice a n c) ∧ w = w' := by
  go_enter Tryz.func19, Tryz.ntmps19
  go_wp2
  go_ret
  exact ⟨rfl, rfl⟩
set_option maxRecDepth 100000 in
set_option maxHeartbeats 800000 in
theorem lines_any (a : Option Addr) (n c : Nat) (t : List UInt8) (w : World) (hr : Rd w a n t) (hn : n ≤ 1048576) : Calls Tryz.prog 21 #[.slice a n c] w fun e w' => e = .returned (.int .i64 ((t.count 10 : Nat) : Int)) ∧ w = w' := by
  have HR := Lib.hid hr
  have HN := Lib.hid hr.1
  clear hr
  go_enter Tryz.func21, Tryz.ntmps21
  go_wp2_with fail
  go_loop [3, 4] (fun nn i => ∃ k : Nat, k ≤ n ∧ i = .int .i64 k ∧ nn = .int .i64 ((List.count (10 : UInt8) (t.take k) : Nat) : Int)) (fun _ i => n - (intOf i).toNat)
  case atStart => exact ⟨0, by omega, rfl, by simp⟩
  case round =>
    obtain ⟨k, hk, rfl, rfl⟩ := hrel
    by_cases hlt : k < n
    · have hkl : k < t.length := by rw [HN.out]; exact hlt
      obtain ⟨q, rfl, hcell⟩ := HR.out.at k hkl
      have hts : t.take (k + 1) = t.take k ++ [t[k]] := by rw [List.take_succ_eq_append_getElem hkl]
      have hle : List.count (10 : UInt8) (t.take k) ≤ k := by
        have h1 := List.count_le_length (a := (10 : UInt8)) (l := t.take k)
        have h2 := List.length_take_le k t
        omega
      unfold bv at hcell
      obtain ⟨x, hx⟩ : ∃ x, x = t[k] := ⟨_, rfl⟩
      rw [← hx] at hcell hts
      have i0 : (0 : Int) ≤ (k : Int) := by omega
      have i1 : (k : Int) < (n : Int) := by omega
      by_cases h10 : x = 10
      · subst h10
        have HC := Lib.hid (show List.count (10 : UInt8) (t.take (k + 1)) = List.count (10 : UInt8) (t.take k) + 1 by rw [hts]; simp)
        have hcell' : w.cell? (q.add k) = some (.int .u8 10) := hcell
        generalize List.count (10 : UInt8) (t.take k) = N at *
        clear hx hts hcell
        go_wp2
        go_round
        case rel => exact ⟨k + 1, by omega, by go_num, by rw [HC.out]; go_num⟩
        case measure => simp [intOf]; omega
      · have HC := Lib.hid (show List.count (10 : UInt8) (t.take (k + 1)) = List.count (10 : UInt8) (t.take k) by rw [hts]; simp [h10])
        have hb : ((x.toNat : Int) == 10) = false := by
          have : x.toNat ≠ 10 := fun e => h10 (UInt8.toNat_inj.1 e)
          simp
          omega
        generalize List.count (10 : UInt8) (t.take k) = N at *
        clear hx hts h10
        go_wp2
        go_round
        case rel => exact ⟨k + 1, by omega, by go_num, by rw [HC.out]⟩
        case measure => simp [intOf]; omega
    · obtain rfl : k = n := by omega
      have HT := Lib.hid (show t.take k = t from List.take_of_length_le (by rw [HN.out]; exact Nat.le_refl _))
      rw [HT.out]
      go_wp2
      go_ret
      exact ⟨rfl, rfl⟩
end Go.Proofs.YtnjpaanjgbfbaaaGreat
/- The law of chapter 12: images that are struck. -/
namespace Go.Proofs.YtnjpaanjgbfbaaaGreat
set_option linter.unusedVariables false
set_option linter.unusedSimpArgs false
open Go.RowKit

structure Hit where
  a : Int
  b : Int
  c : UInt8
  d : Bool
def hC (x : Hit) : List Value := [.int .i64 x.a, .int .i64 x.b, .int .u8 (x.c.toNat : Int), .bool x.d]
def hCs (l : List Hit) : List Value := l.flatMap hC
theorem hCs_length (l : List Hit) : (hCs l).length = l.length * 4 := by
  induction l with
  | nil => rfl
  | cons x l ih =>
    simp only [hCs, List.flatMap_cons, List.length_append] at ih ⊢
    rw [ih]
    simp [hC]
    omega
theorem hCs_at (l : List Hit) (i f : Nat) (hi : i < l.length) (hf : f < 4) : (hCs l)[i * 4 + f]? = (hC l[i])[f]? := by
  induction l generalizing i with
  | nil => simp at hi
  | cons x l ih =>
    rcases i with _ | i
    · simp only [hCs, List.flatMap_cons, Nat.zero_mul, Nat.zero_add, List.getElem_cons_zero]
      rw [List.getElem?_append_left (by simp [hC]; omega)]
    · simp only [hCs, List.flatMap_cons, List.getElem_cons_succ]
      rw [List.getElem?_append_right (by simp [hC]; omega)]
      have e : (i + 1) * 4 + f - (hC x).length = i * 4 + f := by simp [hC]; omega
      rw [e]
      exact ih i (by simpa using hi)
def RH (w : World) (a : Option Addr) (n : Nat) (l : List Hit) : Prop := RV w a n 4 (hCs l)
theorem RH.at {w : World} {a : Option Addr} {n : Nat} {l : List Hit} (h : RH w a n l) (i : Nat) (hi : i < l.length) :
    ∃ p, a = some p ∧ w.cell? (p.add (i * 4)) = some (.int .i64 l[i].a) ∧ w.cell? ⟨(p.add (i * 4)).block, (p.add (i * 4)).off + 1, none⟩ = some (.int .i64 l[i].b) ∧
      w.cell? ⟨(p.add (i * 4)).block, (p.add (i * 4)).off + 2, none⟩ = some (.int .u8 (l[i].c.toNat : Int)) ∧ w.cell? ⟨(p.add (i * 4)).block, (p.add (i * 4)).off + 3, none⟩ = some (.bool l[i].d) := by
  have hl := hCs_length l
  have hc : ∀ f, f < 4 → ∀ p, a = some p → w.cell? (p.add (i * 4 + f)) = (hC l[i])[f]? := by
    intro f hf p hp
    obtain ⟨q, e, hq⟩ := RV.at h (i * 4 + f) (by omega)
    rw [hp] at e; cases e
    rw [hq, ← hCs_at l i f hi hf, List.getElem?_eq_getElem (by omega)]
  obtain ⟨p, rfl, -⟩ := RV.at h (i * 4) (by omega)
  exact ⟨p, rfl, hc 0 (by omega) p rfl, by rw [← add_off _ _ 1 (by omega)]; exact hc 1 (by omega) p rfl, by rw [← add_off _ _ 2 (by omega)]; exact hc 2 (by omega) p rfl, by rw [← add_off _ _ 3 (by omega)]; exact hc 3 (by omega) p rfl⟩
theorem RH.below {w w' : World} {a : Option Addr} {n : Nat} {l : List Hit} (h : RH w a n l) (hb : Below w.heap.size w w') : RH w' a n l := RV.below h hb
/-- A remainder brought into a range. -/
theorem mod_pos (x : Int) (n : Nat) (hn : 0 < n) : (-(n : Int) < x.tmod n ∧ x.tmod n < n) ∧ ∃ k : Nat, k < n ∧ x.tmod (n : Int) % (n : Int) = (k : Int) := by
  have h1 := Int.lt_tmod_of_pos x (b := (n : Int)) (by omega)
  have h2 := Int.tmod_lt_of_pos x (b := (n : Int)) (by omega)
  refine ⟨⟨h1, h2⟩, (x.tmod (n : Int) % (n : Int)).toNat, ?_, ?_⟩
  · have h3 := Int.emod_lt_of_pos (x.tmod (n : Int)) (b := (n : Int)) (by omega)
    have h4 := Int.emod_nonneg (x.tmod (n : Int)) (b := (n : Int)) (by omega)
    omega
  · have h4 := Int.emod_nonneg (x.tmod (n : Int)) (b := (n : Int)) (by omega)
    omega
theorem put_crc (l : List UInt8) (c : Nat) (hl : l.length = 256) (hc : c < 4294967296) : ∃ k, P.put l 0 4 (c : Int) = some k ∧ k.length = 256 := by
  have h : ∃ k, P.put l 0 4 (c : Int) = some k := by
    unfold P.put
    rw [if_pos]
    · exact ⟨_, rfl⟩
    · refine ⟨?_, by omega, by omega, ?_⟩
      · rw [hl]; decide
      · have : (256 : Int) ^ (4 : Int).toNat = 4294967296 := by decide
        rw [this]
        omega
  obtain ⟨k, hk⟩ := h
  exact ⟨k, hk, by rw [P.put_length _ _ _ _ _ hk, hl]⟩
/-- What Struck leaves: an image as long. -/
def StrEnd (L : Nat) (w : World) (e : Ending) (w' : World) : Prop := ∃ g c img, e = .returned (.slice (some ⟨g, 0, none⟩) L c) ∧ ImgAt w' w.heap.size g L c img ∧ Below w.heap.size w w'
set_option maxRecDepth 100000 in
set_option maxHeartbeats 6400000 in
theorem struck_any (a : Option Addr) (L cp np : Nat) (b : List UInt8) (ah : Option Addr) (nh ch : Nat) (hs : List Hit) (w : World) (hr : Rd w a L b) (hL : L = 256 * np) (h8 : 8 ≤ np) (h4 : np ≤ 4096) (hh : RH w ah nh hs) :
    Calls Tryz.prog 14 #[.slice a L cp, .slice ah nh ch] w (StrEnd L w) := by
  have HCP := Lib.hid (copy_any a L cp b w hr (by omega))
  have hbl : b.length = L := hr.1
  have hhl : hs.length = nh := by have h1 := hh.1; rw [hCs_length] at h1; omega
  have HHL := Lib.hid hhl
  have HH := Lib.hid hh
  have HLL := Lib.hid hL
  have q3 : (L : Int) / 256 = (np : Int) := by omega
  have nb : (L : Int) ≤ 1048576 := by omega
  have mh : nh ≤ 9223372036854775807 := by have := hh.2.1; unfold maxLen at this; omega
  clear hr hL hh hhl
  go_enter Tryz.func14, Tryz.ntmps14
  go_wp2_with fail
  refine HCP.out.mono ?_
  rintro e w1 ⟨v, rfl, ho, hb1⟩
  obtain ⟨g, c, hv, hgB, hgl, -, -⟩ := ho.pos (by omega)
  rw [hbl] at hv
  subst hv
  have HIM := Lib.hid (show ImgAt w1 w.heap.size g L c b from ho)
  have HB1 := Lib.hid hb1
  have HH1 := Lib.hid (HH.out.below hb1)
  clear ho hb1 hbl
  go_wp2_with fail
  go_loopw [7] (fun i wr => ∃ (k : Nat) (img : List UInt8), k ≤ nh ∧ i = .int .i64 k ∧ ImgAt wr w.heap.size g L c img ∧ Chg (fun j => j = g) w1 wr) (fun i _ => nh - (intOf i).toNat)
  case atStart => exact ⟨0, b, by omega, rfl, HIM.out, Chg.refl _ _⟩
  case round =>
    obtain ⟨k, img, hk, rfl, him, hcr⟩ := hrel
    have HIMR := Lib.hid him
    have HCR := Lib.hid hcr
    have i0 : (0 : Int) ≤ (k : Int) := by omega
    by_cases hgo : k < nh ∧ k < 20
    · obtain ⟨hlt, h20⟩ := hgo
      have i1 : (k : Int) < (nh : Int) := by omega
      have i2 : decide ((k : Int) < 20) = true := decide_eq_true (by omega)
      have i3 : (k : Int) < 20 := by omega
      have hkl : k < hs.length := by rw [HHL.out]; exact hlt
      obtain ⟨pa, hpa, -⟩ := HH.out.at k hkl
      subst hpa
      have hag : ∀ W, Chg (fun j => j = g) w1 W → ∃ p, some pa = some p ∧ W.cell? (p.add (k * 4)) = some (.int .i64 hs[k].a) ∧ W.cell? ⟨(p.add (k * 4)).block, (p.add (k * 4)).off + 1, none⟩ = some (.int .i64 hs[k].b) ∧
          W.cell? ⟨(p.add (k * 4)).block, (p.add (k * 4)).off + 2, none⟩ = some (.int .u8 (hs[k].c.toNat : Int)) ∧ W.cell? ⟨(p.add (k * 4)).block, (p.add (k * 4)).off + 3, none⟩ = some (.bool hs[k].d) := fun W hc =>
        RH.at (show RH W (some pa) nh hs from RV.chg HH1.out hc (fun p e hpg => by
          have h1 := RV.lt HH.out (by rw [hCs_length]; omega) p e
          omega)) k hkl
      obtain ⟨pa', e', e1, e2, e3, e4⟩ := hag wr hcr
      cases e'
      have hpg : ¬ (pa.add (k * 4)).block = g := fun e => by
        have h1 := RV.lt HH.out (by rw [hCs_length]; omega) pa rfl
        rw [add_block] at e
        omega
      have hpg2 : ¬ g = (pa.add (k * 4)).block := fun e => hpg e.symm
      obtain ⟨x, hx⟩ : ∃ x, x = hs[k] := ⟨_, rfl⟩
      rw [← hx] at e1 e2 e3 e4
      obtain ⟨⟨a1, a2⟩, P8, hP8, hpe⟩ := mod_pos x.a np (by omega)
      obtain ⟨⟨b1', b2'⟩, K8, hK8, hke'⟩ := mod_pos x.b 256 (by omega)
      have b1 : -256 < x.b.tmod 256 := b1'
      have b2 : x.b.tmod 256 < 256 := b2'
      have hke : x.b.tmod 256 % 256 = (K8 : Int) := hke'
      clear b1' b2' hke'
      obtain ⟨M, hM⟩ : ∃ M : Nat, M = P8 * 256 := ⟨_, rfl⟩
      obtain ⟨M2, hM2⟩ : ∃ M2 : Nat, M2 = (P8 + 1) * 256 := ⟨_, rfl⟩
      have hle := him.rd.2
      have lM : M2 ≤ L := by have := HLL.out; omega
      have m1 : (P8 : Int) * 256 = (M : Int) := by omega
      have m2 : ((P8 : Int) + 1) * 256 = (M2 : Int) := by omega
      have m3 : (M : Int) ≤ (M2 : Int) := by omega
      have m4 : (M2 : Int) ≤ (L : Int) := by omega
      have m5 : M2 - M = 256 := by omega
      have m6 : ¬ c = M := by omega
      have m7 : (L : Int) ≤ (c : Int) := by omega
      have m8 : (M : Int) + 256 = (M2 : Int) := by omega
      have m9 : (M2 : Int) ≤ (c : Int) := by omega
      have hk0 : (0 : Int) ≤ (K8 : Int) := by omega
      have hk1 : (K8 : Int) < 256 := by omega
      have HIL := Lib.hid him.len
      have hjl : M + K8 < img.length := by rw [him.len]; omega
      have gc : wr.cell? ⟨g, M + K8, none⟩ = some (bv img[M + K8]) := OB.cell him (M + K8) hjl
      have gf : wr.frozen? ⟨g, M + K8, none⟩ = false := OB.free him (M + K8)
      have HSET := Lib.hid (him.set (M + K8) x.c)
      have HCS := Lib.hid (hcr.trans (setCell_chg wr g (M + K8) (.int .u8 (x.c.toNat : Int))))
      generalize bv img[M + K8] = bx at gc
      have HM := Lib.hid hM
      clear him hcr hag hx hM hM2 hjl
      rcases hxd : x.d with _ | _
      · rw [hxd] at e4
        clear hxd
        go_wp2
        exact ⟨⟨k + 1, _, by omega, by go_num, HSET.out, HCS.out⟩, by simp [intOf]; omega⟩
      · rw [hxd] at e4
        clear hxd
        have hpe2 : (x.a.tmod (np : Int) + (np : Int)) % (np : Int) = (P8 : Int) := by rw [Int.add_emod_right]; exact hpe
        obtain ⟨img2, hi2⟩ : ∃ i, i = img.set (M + K8) x.c := ⟨_, rfl⟩
        have hset := HSET.out
        rw [← hi2] at hset
        have hrd := hset.rd.1
        have hlen2 := hset.len
        have hr1 : Rd (wr.setCell ⟨g, M + K8, none⟩ (.int .u8 (x.c.toNat : Int))) (some ⟨g, M, none⟩) 256 (P.slice img2 M 256) := by
          have h := hrd.cut M 256 (by omega)
          rwa [show (⟨g, 0, none⟩ : Addr).add M = ⟨g, M, none⟩ from add0 g M] at h
        have hr2 : Rd (wr.setCell ⟨g, M + K8, none⟩ (.int .u8 (x.c.toNat : Int))) (some ⟨g, M + 4, none⟩) 252 (P.slice img2 (M + 4) 252) := by
          have h := hrd.cut (M + 4) 252 (by omega)
          rwa [show (⟨g, 0, none⟩ : Addr).add (M + 4) = ⟨g, M + 4, none⟩ from add0 g (M + 4)] at h
        have hclt := P.crc_lt (P.slice img2 (M + 4) 252)
        have HCRC := Lib.hid (rcrc_any _ 252 (c - M - 4) _ _ hr2)
        obtain ⟨kk, hkk, hkl2⟩ := put_crc (P.slice img2 M 256) (P.crc (P.slice img2 (M + 4) 252)) (by have := hr1.1; exact this) hclt
        have HPUT := Lib.hid (rput_good _ 256 (c - M) _ kk 0 4 _ _ hr1 hkk (by omega))
        have HS2 := Lib.hid hset
        obtain ⟨w2, hw2⟩ : ∃ w2, w2 = wr.setCell ⟨g, M + K8, none⟩ (.int .u8 (x.c.toNat : Int)) := ⟨_, rfl⟩
        rw [← hw2] at HCRC HPUT HS2 HCS
        obtain ⟨cr, hcr9⟩ : ∃ cr, cr = P.crc (P.slice img2 (M + 4) 252) := ⟨_, rfl⟩
        rw [← hcr9] at HCRC HPUT hclt
        have cb : (cr : Int) < 4294967296 := by omega
        have cb0 : (0 : Int) ≤ (cr : Int) := by omega
        clear hset hrd hlen2 hr1 hr2 hkk hi2 hcr9 hclt
        go_wp2_with fail
        rw [← hw2]
        clear hw2
        refine HCRC.out.mono ?_
        rintro e w3 ⟨rfl, rfl⟩
        go_wp2_with fail
        refine HPUT.out.mono ?_
        rintro e w3 ⟨v, rfl, ho3, hb3⟩
        obtain ⟨a3, c3, hv3, hr3, hc3, ha3, -⟩ := ho3.form
        rw [hkl2] at hv3 hr3 hc3
        subst hv3
        have HLAY := Lib.hid (ilay_any w.heap.size g L c P8 img2 a3 256 c3 kk w3 (HS2.out.below hb3) hr3 (fun q e => by have := (ha3 q e).1; have := HS2.out.ge; omega) (by omega) (by have := HM.out; omega))
        have HC3 := Lib.hid (HCS.out.trans (Chg.of_below hb3 _))
        clear ho3 hb3 hr3 ha3
        go_wp2_with fail
        refine HLAY.out.mono ?_
        rintro e w4 ⟨rfl, him4, hc4⟩
        have HIM4 := Lib.hid him4
        have HC4 := Lib.hid (HC3.out.trans hc4)
        clear him4 hc4
        go_wp2
        exact ⟨⟨k + 1, _, by omega, by go_num, HIM4.out, HC4.out⟩, by simp [intOf]; omega⟩
    · have hcs : (¬ k < nh) ∨ (k < nh ∧ ¬ k < 20) := by omega
      have HFIN := Lib.hid (show StrEnd L w (.returned (.slice (some ⟨g, 0, none⟩) L c)) wr from ⟨g, c, img, rfl, him, below_chg HB1.out hcr HB1.out.size (fun i e => by omega)⟩)
      clear him hcr hgo
      rcases hcs with h | ⟨h, h2⟩
      · go_wp2
        go_ret
        exact HFIN.out
      · have i2 : decide ((k : Int) < 20) = false := decide_eq_false (by omega)
        have i3 : ¬ (k : Int) < 20 := by omega
        go_wp2
        go_ret
        exact HFIN.out
end Go.Proofs.YtnjpaanjgbfbaaaGreat
