/- The walk of chapter 7: Decode, its parts. -/
import Derived.Test.YtpdmhnppibfmkaaSpI
namespace Go.Proofs.Ytpdmhnppibfmkaa
set_option linter.unusedVariables false
set_option linter.unusedSimpArgs false
open Go.RowKit

theorem rdec_fun (a : Option Addr) (len cap : Nat) (l : List UInt8) (w : World) (hr : Rd w a len l) (hc : len ≤ cap) :
    Calls Try.prog 21 #[.slice a len cap] w fun e w' => e = .returned (.tuple #[supV (P.sSup l), .int .i64 (P.sErr l)]) ∧ Below w.heap.size w w' := by
  by_cases h : P.openErr l = 0
  · exact rdec_body a len cap l w hr hc h
  · rw [(P.sErr_open h).1, (P.sErr_open h).2]
    exact rdec_open a len cap l w hr hc h

/-- Where the field stands. -/
def offs (j : Nat) : Nat := [0, 8, 12, 16, 18, 22, 26, 30, 34].getD j 0
theorem offs_succ (j : Nat) (h : j < 8) : offs (j + 1) = offs j + sz j := by
  match j, h with
  | 0, _ | 1, _ | 2, _ | 3, _ | 4, _ | 5, _ | 6, _ | 7, _ => rfl
theorem offs_le (j : Nat) (h : j ≤ 8) : offs j ≤ 34 := by
  match j, h with
  | 0, _ | 1, _ | 2, _ | 3, _ | 4, _ | 5, _ | 6, _ | 7, _ | 8, _ => decide
theorem dec_val (b : List UInt8) (j : Nat) (h : j < 8) : (P.get b (offs j : Nat) (sz j : Nat)).1 = val (P.dec b) j := by
  match j, h with
  | 0, _ | 1, _ | 2, _ | 3, _ | 4, _ | 5, _ | 6, _ | 7, _ => rfl
theorem get_fits (b : List UInt8) (at_ n : Nat) (h1 : 1 ≤ n) (h7 : n ≤ 7) (h : at_ + n ≤ b.length) : (P.get b (at_ : Nat) (n : Nat)).2 = true := by
  have hl : P.lies b.length (at_ : Nat) (n : Nat) = true := by simp [P.lies]; omega
  unfold P.get
  rw [if_pos hl]
  simp only [Int.toNat_natCast]
  have hlen : (P.slice b at_ n).length = n := by simp [P.slice]; omega
  have hlt := P.num_lt (P.slice b at_ n)
  rw [hlen] at hlt
  have : 256 ^ n ≤ 72057594037927936 := pow7 n (by omega)
  rw [if_neg (by omega)]
theorem get_unfit (b : List UInt8) (at_ n : Int) (h : (P.get b at_ n).2 = false) : (P.get b at_ n).1 = 0 := by
  unfold P.get at *
  by_cases h1 : P.lies b.length at_ n = true
  · rw [if_pos h1] at h ⊢
    simp only at h ⊢
    by_cases h2 : 4611686018427387904 < P.num (P.slice b at_.toNat n.toNat)
    · rw [if_pos h2]
    · rw [if_neg h2] at h; cases h
  · rw [if_neg h1]
end Go.Proofs.Ytpdmhnppibfmkaa
