/- The walk of chapter 7: Decode, its parts. -/
import Derived.Test.YtnjpaanjgbfbaaaGreatJ19
namespace Go.Proofs.YtnjpaanjgbfbaaaGreat
set_option linter.unusedVariables false
set_option linter.unusedSimpArgs false
open Go.RowKit

theorem rdec_fun (a : Option Addr) (len cap : Nat) (l : List UInt8) (w : World) (hr : Rd w a len l) (hc : len ≤ cap) :
    Calls Tryz.prog 46 #[.slice a len cap] w fun e w' => e = .returned (.tuple #[supV (P.sSup l), .int .i64 (P.sErr l)]) ∧ Below w.heap.size w w' := by
  by_cases h : P.openErr l = 0
  · exact rdec_body a len cap l w hr hc h
  · rw [(P.sErr_open h).1, (P.sErr_open h).2]
    exact rdec_open a len cap l w hr hc h

/-- Where the field stands. -/
def offs (j : Nat) : Nat := [0, 8, 12, 16, 18, 22, 26, 30, 34].getD j 0
theorem offs_succ (j : Nat) (h : j < 8) : offs (j + 1) = offs j + sz j := by
  match j, h with
  | 0, _ | 1, _ | 2, _ | 3, _ | 4, _ | 5, _ | 6, _ | 7, _ => rfl
theorem offs_le (j : Nat) (h : j ≤ 8) : offs j ≤ 34 := by
  match j, h with
  | 0, _ | 1, _ | 2, _ | 3, _ | 4, _ | 5, _ | 6, _ | 7, _ | 8, _ => decide
theorem dec_val (b : List UInt8) (j : Nat) (h : j < 8) : (P.get b (offs j : Nat) (sz j : Nat)).1 = val (P.dec b) j := by
  match j, h with
  | 0, _ | 1, _ | 2, _ | 3, _ | 4, _ | 5, _ | 6, _ | 7, _ => rfl
theorem get_fits (b : List UInt8) (at_ n : Nat) (h1 : 1 ≤ n) (h7 : n ≤ 7) (h : at_ + n ≤ b.length) : (P.get b (at_ : Nat) (n : Nat)).2 = true := by
  have hl : P.lies b.length (at_ : Nat) (n : Nat) = true := by simp [P.lies]; omega
  unfold P.get
  rw [if_pos hl]
  simp only [Int.toNat_natCast]
  have hlen : (P.slice b at_ n).length = n := by simp [P.slice]; omega
  have hlt := P.num_lt (P.slice b at_ n)
  rw [hlen] at hlt
  have : 256 ^ n ≤ 72057594037927936 := pow7 n (by omega)
  rw [if_neg (by omega)]
theorem get_unfit (b : List UInt8) (at_ n : Int) (h : (P.get b at_ n).2 = false) : (P.get b at_ n).1 = 0 := by
  unfold P.get at *
  by_cases h1 : P.lies b.length at_ n = true
  · rw [if_pos h1] at h ⊢
    simp only at h ⊢
    by_cases h2 : 4611686018427387904 < P.num (P.slice b at_.toNat n.toNat)
    · rw [if_pos h2]
    · rw [if_neg h2] at h; cases h
  · rw [if_neg h1]
end Go.Proofs.YtnjpaanjgbfbaaaGreat
/- The walk of chapter 7: Decode, where the page does not open. -/
namespace Go.Proofs.YtnjpaanjgbfbaaaGreat
set_option linter.unusedVariables false
set_option linter.unusedSimpArgs false
open Go.RowKit

set_option maxRecDepth 100000 in
set_option maxHeartbeats 1600000 in
theorem dec_open (a : Option Addr) (len cap : Nat) (l : List UInt8) (w : World) (hr : Rd w a len l) (hc : len ≤ cap) (he : P.openErr l ≠ 0) :
    Calls Tryz.prog 57 #[.slice a len cap] w fun e w' => e = .returned (.tuple #[zsup, .int .i64 (P.openErr l)]) ∧ Below w.heap.size w w' := by
  have c1 : (P.openErr l != 0) = true := by simpa using he
  have HO := Lib.hid (fun w1 (h : Rd w1 a len l) => open_fun a len cap l w1 h hc)
  have HR := Lib.hid hr
  obtain ⟨E, hE⟩ : ∃ E, E = P.openErr l := ⟨_, rfl⟩
  rw [← hE] at c1 ⊢
  have HE := Lib.hid hE
  clear hr he hE
  unfold zsup
  go_enter Tryz.func57, Tryz.ntmps57
  go_wp2_with fail
  refine (HO.out _ (HR.out.below ((Below.refl _ w).alloc (Nat.le_refl _) _))).mono ?_
  rintro e w1 ⟨v, rfl, hown, hb1⟩
  rw [← HE.out]
  have hb := below_alloc1 hb1
  have hB1 := made_below hb1
  have hlt : w.heap.size < w1.heap.size := lt_of_block hB1
  obtain ⟨av, pv, hv, -, -, -, -⟩ := hown.form
  subst hv
  have HB1 := Lib.hid hB1
  clear hown hb1 hB1
  have cl := cell_blk HB1.out
  have fz := free_blk HB1.out
  go_wp2
  generalize hW2 : World.alloc _ _ = W2
  have hb2 : Below w.heap.size w W2 := by rw [← hW2]; exact set8 hb _ _ _ _ _ _ _ _ _
  have cl2 := cell_blk (show W2.heap[w.heap.size]? = _ by rw [← hW2]; exact alloc_old (blk8 HB1.out _ _ _ _ _ _ _ _) _)
  exact bodyPost_ret (v := .tuple #[zsup, .int .i64 E]) (by simp [results, Tryz.results57, zsup, go_sem, cl2]) rfl ⟨rfl, hb2⟩
end Go.Proofs.YtnjpaanjgbfbaaaGreat
/- The walk of chapter 7: Decode, of a page that opens. -/
namespace Go.Proofs.YtnjpaanjgbfbaaaGreat
set_option linter.unusedVariables false
set_option linter.unusedSimpArgs false
open Go.RowKit

/-- The first j numbers, the rest noughts. -/
def cutS (x : P.Sup) (j : Nat) : P.Sup := ⟨if 0 < j then x.g else 0, if 1 < j then x.p else 0, if 2 < j then x.r else 0, if 3 < j then x.h else 0, if 4 < j then x.b else 0, if 5 < j then x.l else 0, if 6 < j then x.s else 0, if 7 < j then x.f else 0⟩
theorem cut_succ (x : P.Sup) (j : Nat) (h : j < 8) : (supC (cutS x j)).setIfInBounds j (.int .i64 (val x j)) = supC (cutS x (j + 1)) := by
  match j, h with
  | 0, _ | 1, _ | 2, _ | 3, _ | 4, _ | 5, _ | 6, _ | 7, _ => simp [supC, cutS, val]
theorem cut_all (x : P.Sup) : cutS x 8 = x := by simp [cutS]
theorem cut_none (x : P.Sup) : cutS x 0 = .zero := by simp [cutS, P.Sup.zero]
/-- Are the first j numbers there? -/
def okN (b : List UInt8) (o : Bool) : Nat → Bool
  | 0 => o
  | j + 1 => okN b o j && (P.get b (offs j : Nat) (sz j : Nat)).2
theorem okN_all (b : List UInt8) (o : Bool) (h : b.length = 248) : okN b o 8 = (o && (P.get b 0 8).2) := by
  have e (at_ n : Nat) (h1 : 1 ≤ n) (h7 : n ≤ 7) (h2 : at_ + n ≤ 248) := get_fits b at_ n h1 h7 (by omega)
  have e1 := e 8 4 (by omega) (by omega) (by omega)
  have e2 := e 12 4 (by omega) (by omega) (by omega)
  have e3 := e 16 2 (by omega) (by omega) (by omega)
  have e4 := e 18 4 (by omega) (by omega) (by omega)
  have e5 := e 22 4 (by omega) (by omega) (by omega)
  have e6 := e 26 4 (by omega) (by omega) (by omega)
  have e7 := e 30 4 (by omega) (by omega) (by omega)
  simp only [okN]
  show (((((((( o && (P.get b (0 : Nat) (8 : Nat)).2) && (P.get b (8 : Nat) (4 : Nat)).2) && (P.get b (12 : Nat) (4 : Nat)).2) && (P.get b (16 : Nat) (2 : Nat)).2) && (P.get b (18 : Nat) (4 : Nat)).2) && (P.get b (22 : Nat) (4 : Nat)).2) && (P.get b (26 : Nat) (4 : Nat)).2) && (P.get b (30 : Nat) (4 : Nat)).2) = _
  rw [e1, e2, e3, e4, e5, e6, e7]
  simp
end Go.Proofs.YtnjpaanjgbfbaaaGreat
