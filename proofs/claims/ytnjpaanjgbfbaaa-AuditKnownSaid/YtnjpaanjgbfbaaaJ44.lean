/- The law of chapter 12: pages laid into an image. -/
import Derived.Test.YtnjpaanjgbfbaaaJ43
namespace Go.Proofs.Ytnjpaanjgbfbaaa
set_option linter.unusedVariables false
set_option linter.unusedSimpArgs false
open Go.RowKit

/-- An image with bytes laid from a place on. -/
def layAt (img : List UInt8) (at_ : Nat) (p : List UInt8) : List UInt8 := img.take at_ ++ (p ++ img.drop (at_ + p.length))
theorem layAt_length (img : List UInt8) (at_ : Nat) (p : List UInt8) (h : at_ + p.length ≤ img.length) : (layAt img at_ p).length = img.length := by
  simp [layAt]
  omega
theorem layAt_nil (img : List UInt8) (at_ : Nat) : layAt img at_ [] = img := by simp [layAt]
theorem layAt_snoc (img : List UInt8) (at_ : Nat) (p : List UInt8) (c : UInt8) (h : at_ + p.length < img.length) : layAt img at_ (p ++ [c]) = (layAt img at_ p).set (at_ + p.length) c := by
  unfold layAt
  rw [List.set_append_right _ _ (by simp; omega), List.set_append_right _ _ (by simp; omega)]
  have e1 : at_ + p.length - (img.take at_).length - p.length = 0 := by simp; omega
  rw [e1, List.append_assoc]
  congr 2
  have e2 : at_ + (p ++ [c]).length = at_ + p.length + 1 := by simp; omega
  rw [e2, List.drop_eq_getElem_cons (l := img) (i := at_ + p.length) h]
  rfl
theorem layAt_getD (img : List UInt8) (at_ : Nat) (p : List UInt8) (h : at_ + p.length ≤ img.length) (i : Nat) (hi : i < img.length) :
    (layAt img at_ p)[i]'(by rw [layAt_length _ _ _ h]; exact hi) = if hp : at_ ≤ i ∧ i < at_ + p.length then p[i - at_]'(by omega) else img[i] := by
  unfold layAt
  by_cases h1 : i < at_
  · rw [dif_neg (by omega), List.getElem_append_left (by simp; omega)]
    simp
  · by_cases h2 : i < at_ + p.length
    · rw [dif_pos ⟨by omega, h2⟩, List.getElem_append_right (by simp; omega), List.getElem_append_left (by simp; omega)]
      simp
      congr 1
      omega
    · rw [dif_neg (by omega), List.getElem_append_right (by simp; omega), List.getElem_append_right (by simp; omega)]
      simp
      congr 1
      omega
theorem layAt_get? (img : List UInt8) (at_ : Nat) (p : List UInt8) (h : at_ + p.length ≤ img.length) (j : Nat) : (layAt img at_ p)[j]? = if at_ ≤ j ∧ j < at_ + p.length then p[j - at_]? else img[j]? := by
  rcases Nat.lt_or_ge j img.length with hj | hj
  · have hl := layAt_length img at_ p h
    rw [List.getElem?_eq_getElem (by rw [hl]; exact hj), layAt_getD img at_ p h j hj]
    by_cases hp : at_ ≤ j ∧ j < at_ + p.length
    · rw [dif_pos hp, if_pos hp, List.getElem?_eq_getElem]
    · rw [dif_neg hp, if_neg hp, List.getElem?_eq_getElem]
  · have hl := layAt_length img at_ p h
    rw [List.getElem?_eq_none (by rw [hl]; exact hj), if_neg (by omega), List.getElem?_eq_none hj]
theorem pg_get? (img : List UInt8) (m i : Nat) (hi : i < 256) : (P.pg img m)[i]? = img[256 * m + i]? := by
  unfold P.pg
  rw [List.getElem?_take, if_pos hi, List.getElem?_drop]
set_option maxRecDepth 100000 in
/-- The page that was laid, and the others. -/
theorem pg_lay (img : List UInt8) (np n : Nat) (p : List UInt8) (hl : img.length = 256 * np) (hp : p.length = 256) (hn : n < np) (m : Nat) (hm : m < np) : P.pg (layAt img (n * 256) p) m = if m = n then p else P.pg img m := by
  have hle : n * 256 + p.length ≤ img.length := by omega
  have hll := layAt_length img (n * 256) p hle
  apply List.ext_getElem?
  intro i
  rcases Nat.lt_or_ge i 256 with hi | hi
  · rw [pg_get? _ _ _ hi, layAt_get? _ _ _ hle]
    by_cases e : m = n
    · subst e
      have hc : m * 256 ≤ 256 * m + i ∧ 256 * m + i < m * 256 + p.length := by rw [hp]; constructor <;> omega
      have hs : 256 * m + i - m * 256 = i := by omega
      rw [if_pos hc, if_pos rfl, hs]
    · rw [if_neg (by omega), if_neg e, pg_get? _ _ _ hi]
  · rw [List.getElem?_eq_none (by rw [pg_length _ np m (by rw [hll]; exact hl) hm]; exact hi), List.getElem?_eq_none]
    by_cases e : m = n
    · rw [if_pos e, hp]; exact hi
    · rw [if_neg e, pg_length img np m hl hm]; exact hi
/-- Block g is an image: a row of bytes of the law's own. -/
def ImgAt (w : World) (B g L c : Nat) (img : List UInt8) : Prop := OB w B (.slice (some ⟨g, 0, none⟩) L c) img
theorem ImgAt.len {w : World} {B g L c : Nat} {img : List UInt8} (h : ImgAt w B g L c img) : img.length = L := (OB.len h).symm
theorem ImgAt.ge {w : World} {B g L c : Nat} {img : List UInt8} (h : ImgAt w B g L c img) : B ≤ g ∧ g < w.heap.size := by
  obtain ⟨a, cp, e, -, -, hb, -⟩ := OB.form h
  injection e with e1 e2 e3
  have := hb _ e1.symm
  exact ⟨this.1, this.2.1⟩
theorem ImgAt.below {w w' : World} {B g L c : Nat} {img : List UInt8} (h : ImgAt w B g L c img) (hb : Below w.heap.size w w') : ImgAt w' B g L c img := OB.below h hb
theorem ImgAt.chg {S : Nat → Prop} {w w' : World} {B g L c : Nat} {img : List UInt8} (h : ImgAt w B g L c img) (hc : Chg S w w') (hg : ¬ S g) : ImgAt w' B g L c img := OB.chg h hc (fun k hk => by
  simp [Value.ownBlock] at hk
  exact hk ▸ hg)
theorem ImgAt.rd {w : World} {B g L c : Nat} {img : List UInt8} (h : ImgAt w B g L c img) : Rd w (some ⟨g, 0, none⟩) L img ∧ L ≤ c := by
  obtain ⟨a, cp, e, hr, hc, -⟩ := OB.form h
  injection e with e1 e2 e3
  rw [e1, e2, e3]
  exact ⟨hr, hc⟩
theorem ImgAt.set {w : World} {B g L c : Nat} {img : List UInt8} (h : ImgAt w B g L c img) (j : Nat) (x : UInt8) : ImgAt (w.setCell ⟨g, j, none⟩ (.int .u8 (x.toNat : Int))) B g L c (img.set j x) := OB.stored h j x
set_option maxRecDepth 100000 in
set_option maxHeartbeats 1600000 in
theorem ilay_any (B g L c n : Nat) (img : List UInt8) (a : Option Addr) (m cp : Nat) (p : List UInt8) (w : World) (h : ImgAt w B g L c img) (hr : Rd w a m p) (hne : ∀ q, a = some q → q.block ≠ g) (hL : L ≤ 1048576) (hn : n * 256 + m ≤ L) :
    Calls Try.prog 13 #[.slice (some ⟨g, 0, none⟩) L c, .int .i64 (n : Int), .slice a m cp] w fun e w' => e = .returned (.tuple #[]) ∧ ImgAt w' B g L c (layAt img (n * 256) p) ∧ Chg (fun j => j = g) w w' := by
  have hpl := hr.1
  have H := Lib.hid h
  have HR := Lib.hid hr
  have HNE := Lib.hid hne
  have HPL := Lib.hid hpl
  have HIL := Lib.hid h.len
  obtain ⟨N, hN⟩ : ∃ N, N = n * 256 := ⟨_, rfl⟩
  have HN := Lib.hid hN
  rw [← hN] at hn ⊢
  have n1 : (n : Int) * 256 = (N : Int) := by omega
  have n2 : (N : Int) ≤ 1048576 := by omega
  have n3 : (m : Int) ≤ 1048576 := by omega
  clear h hr hne hpl hN
  go_enter Try.func13, Try.ntmps13
  go_wp2_with fail
  go_loopw [6] (fun i wr => ∃ k : Nat, k ≤ m ∧ i = .int .i64 k ∧ ImgAt wr B g L c (layAt img N (p.take k)) ∧ Chg (fun j => j = g) w wr) (fun i _ => m - (intOf i).toNat)
  case atStart => exact ⟨0, by omega, rfl, by rw [List.take_zero, layAt_nil]; exact H.out, Chg.refl _ _⟩
  case round =>
    obtain ⟨k, hk, rfl, him, hcr⟩ := hrel
    have HIM := Lib.hid him
    have HCR := Lib.hid hcr
    by_cases hlt : k < m
    · have hkl : k < p.length := by rw [HPL.out]; exact hlt
      obtain ⟨q, rfl, hcell⟩ := (HR.out.chg hcr (fun q e => HNE.out q e)).at k hkl
      unfold bv at hcell
      obtain ⟨x, hx⟩ : ∃ x, x = p[k] := ⟨_, rfl⟩
      rw [← hx] at hcell
      obtain ⟨J, hJ⟩ : ∃ J, J = N + k := ⟨_, rfl⟩
      have j1 : (N : Int) + (k : Int) = (J : Int) := by omega
      have j2 : (J : Int) < (L : Int) := by omega
      have j3 : (0 : Int) ≤ (J : Int) := by omega
      have i0 : (0 : Int) ≤ (k : Int) := by omega
      have i1 : (k : Int) < (m : Int) := by omega
      have hjl : J < (layAt img N (p.take k)).length := by rw [him.len]; omega
      have gc : wr.cell? ⟨g, J, none⟩ = some (bv (layAt img N (p.take k))[J]) := OB.cell him J hjl
      have gf : wr.frozen? ⟨g, J, none⟩ = false := OB.free him J
      generalize bv (layAt img N (p.take k))[J] = bx at gc
      have HTS := Lib.hid (show layAt img N (p.take (k + 1)) = (layAt img N (p.take k)).set J x by
        rw [List.take_succ_eq_append_getElem hkl, layAt_snoc _ _ _ _ (by rw [List.length_take, HIL.out]; omega), ← hx]
        congr 1
        rw [List.length_take]
        omega)
      have HSET := Lib.hid (him.set J x)
      have HC := Lib.hid (hcr.trans (setCell_chg wr g J (.int .u8 (x.toNat : Int))))
      clear him hcr hx hJ hjl
      go_wp2
      exact ⟨⟨k + 1, by omega, by go_num, by rw [HTS.out]; exact HSET.out, HC.out⟩, by simp [intOf]; omega⟩
    · obtain rfl : k = m := by omega
      rw [List.take_of_length_le (by rw [HPL.out]; exact Nat.le_refl _)] at HIM
      clear him hcr
      go_wp2
      go_end0
      exact ⟨rfl, HIM.out, HCR.out⟩
theorem first_any (a : Option Addr) (n c : Nat) (x : Int) (w : World) : Calls Try.prog 14 #[.slice a n c, .int .i64 x] w fun e w' => e = .returned (.slice a n c) ∧ w = w' := by
  go_enter Try.func14, Try.ntmps14
  go_wp2
  go_ret
  exact ⟨rfl, rfl⟩
set_option maxRecDepth 100000 in
set_option maxHeartbeats 800000 in
theorem lines_any (a : Option Addr) (n c : Nat) (t : List UInt8) (w : World) (hr : Rd w a n t) (hn : n ≤ 1048576) : Calls Try.prog 16 #[.slice a n c] w fun e w' => e = .returned (.int .i64 ((t.count 10 : Nat) : Int)) ∧ w = w' := by
  have HR := Lib.hid hr
  have HN := Lib.hid hr.1
  clear hr
  go_enter Try.func16, Try.ntmps16
  go_wp2_with fail
  go_loop [3, 4] (fun nn i => ∃ k : Nat, k ≤ n ∧ i = .int .i64 k ∧ nn = .int .i64 ((List.count (10 : UInt8) (t.take k) : Nat) : Int)) (fun _ i => n - (intOf i).toNat)
  case atStart => exact ⟨0, by omega, rfl, by simp⟩
  case round =>
    obtain ⟨k, hk, rfl, rfl⟩ := hrel
    by_cases hlt : k < n
    · have hkl : k < t.length := by rw [HN.out]; exact hlt
      obtain ⟨q, rfl, hcell⟩ := HR.out.at k hkl
      have hts : t.take (k + 1) = t.take k ++ [t[k]] := by rw [List.take_succ_eq_append_getElem hkl]
      have hle : List.count (10 : UInt8) (t.take k) ≤ k := by
        have h1 := List.count_le_length (a := (10 : UInt8)) (l := t.take k)
        have h2 := List.length_take_le k t
        omega
      unfold bv at hcell
      obtain ⟨x, hx⟩ : ∃ x, x = t[k] := ⟨_, rfl⟩
      rw [← hx] at hcell hts
      have i0 : (0 : Int) ≤ (k : Int) := by omega
      have i1 : (k : Int) < (n : Int) := by omega
      by_cases h10 : x = 10
      · subst h10
        have HC := Lib.hid (show List.count (10 : UInt8) (t.take (k + 1)) = List.count (10 : UInt8) (t.take k) + 1 by rw [hts]; simp)
        have hcell' : w.cell? (q.add k) = some (.int .u8 10) := hcell
        generalize List.count (10 : UInt8) (t.take k) = N at *
        clear hx hts hcell
        go_wp2
        go_round
        case rel => exact ⟨k + 1, by omega, by go_num, by rw [HC.out]; go_num⟩
        case measure => simp [intOf]; omega
      · have HC := Lib.hid (show List.count (10 : UInt8) (t.take (k + 1)) = List.count (10 : UInt8) (t.take k) by rw [hts]; simp [h10])
        have hb : ((x.toNat : Int) == 10) = false := by
          have : x.toNat ≠ 10 := fun e => h10 (UInt8.toNat_inj.1 e)
          simp
          omega
        generalize List.count (10 : UInt8) (t.take k) = N at *
        clear hx hts h10
        go_wp2
        go_round
        case rel => exact ⟨k + 1, by omega, by go_num, by rw [HC.out]⟩
        case measure => simp [intOf]; omega
    · obtain rfl : k = n := by omega
      have HT := Lib.hid (show t.take k = t from List.take_of_length_le (by rw [HN.out]; exact Nat.le_refl _))
      rw [HT.out]
      go_wp2
      go_ret
      exact ⟨rfl, rfl⟩
end Go.Proofs.Ytnjpaanjgbfbaaa
/- The law of chapter 12: images that are struck. -/
namespace Go.Proofs.Ytnjpaanjgbfbaaa
set_option linter.unusedVariables false
set_option linter.unusedSimpArgs false
open Go.RowKit

structure Hit where
  a : Int
  b : Int
  c : UInt8
  d : Bool
def hC (x : Hit) : List Value := [.int .i64 x.a, .int .i64 x.b, .int .u8 (x.c.toNat : Int), .bool x.d]
end Go.Proofs.Ytnjpaanjgbfbaaa
