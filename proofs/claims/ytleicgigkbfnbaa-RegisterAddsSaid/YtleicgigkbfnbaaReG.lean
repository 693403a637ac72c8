/- The walk of chapter 21: Delete. -/
import Derived.Test.YtleicgigkbfnbaaReE
namespace Go.Proofs.Ytleicgigkbfnbaa
set_option linter.unusedVariables false
set_option linter.unusedSimpArgs false
open Go.RowKit
variable {A : Nat → Prop}

theorem RegIs.move {w w' : World} {p b c nm n i j : Nat} {M : RM} {V : Nat → Option Value} {x : Value} (h1 : w.heap[p]? = some (.cells #[.map (some b), .int .u8 nm] 50 (0, 0))) (h2 : p ≠ b ∧ A p ∧ ∀ j, A j → j < w.heap.size) (h3 : nm < 256)
    (h4 : Ms w b n V) (h5 : n ≤ c) (h6 : ∀ k, k < 256 → Holds A w (M k) (V k)) (hj : j < 256) (hx : V j = some x)
    (hs : Ms w' b (n + 1) (upd V i (some x))) (hg : w.grownBy w' (some b)) : RegIs A w' p b (c + 1) (upd M i (M j)) nm ∧ Chg (fun j => j = p ∨ j = b) w w' := by
  have hbo := h4.obj
  refine ⟨⟨(hg.block _ (lt_of_block h1) (by intro e; injection e with e; exact h2.1 e)).trans h1, ⟨h2.1, h2.2.1, fun j hj => Nat.lt_of_lt_of_le (h2.2.2 j hj) hg.size⟩, h3, _, _, hs, by omega, fun k hk => ?_⟩, ?_⟩
  · unfold upd
    by_cases he : k = i
    · rw [if_pos he, if_pos he, ← hx]
      exact (h6 j hj).grownM hg hbo
    · rw [if_neg he, if_neg he]
      exact (h6 k hk).grownM hg hbo
  · exact ⟨hg.os, hg.tape, hg.output, hg.size, fun i hi hS => hg.block i hi (by intro e; injection e with e; exact hS (.inr e))⟩
theorem RegIs.drop {w w' : World} {p b c nm n i : Nat} {M : RM} {V : Nat → Option Value} (h1 : w.heap[p]? = some (.cells #[.map (some b), .int .u8 nm] 50 (0, 0))) (h2 : p ≠ b ∧ A p ∧ ∀ j, A j → j < w.heap.size) (h3 : nm < 256)
    (h4 : Ms w b n V) (h5 : n ≤ c) (h6 : ∀ k, k < 256 → Holds A w (M k) (V k)) (hs : Ms w' b n (upd V i none)) (hg : w.grownBy w' (some b)) : RegIs A w' p b c (upd M i none) nm ∧ Chg (fun j => j = p ∨ j = b) w w' := by
  have hbo := h4.obj
  refine ⟨⟨(hg.block _ (lt_of_block h1) (by intro e; injection e with e; exact h2.1 e)).trans h1, ⟨h2.1, h2.2.1, fun j hj => Nat.lt_of_lt_of_le (h2.2.2 j hj) hg.size⟩, h3, _, _, hs, h5, fun k hk => ?_⟩, ?_⟩
  · unfold upd
    by_cases he : k = i
    · rw [if_pos he, if_pos he]
      rfl
    · rw [if_neg he, if_neg he]
      exact (h6 k hk).grownM hg hbo
  · exact ⟨hg.os, hg.tape, hg.output, hg.size, fun i hi hS => hg.block i hi (by intro e; injection e with e; exact hS (.inr e))⟩
theorem wpList_drop (w : World) {ops : Array Oper} {rest : List Oper} {o : Oper} {a : Act} {Q : Exit → Act → World → Prop} (hg : o.guard = none) (m x : Operand)
    (hop : o.op = Op.call { callee := Callee.builtin Builtin.delete, args := #[m, x], argTypes := #[48, 5] }) (b n : Nat) (V : Nat → Option Value)
    (hm : a.eval m = .map (some b)) (h : Ms w b n V) (k : Nat) (hk : k < 256) (hx : a.eval x = .int .u8 k)
    (hK : ∀ w', Ms w' b n (upd V k none) → w.grownBy w' (some b) → wpList Try.prog ops Q rest (a.put o.dst (.tuple #[])) w') :
    wpList Try.prog ops Q (o :: rest) a w := by
  refine wpList_plain hg fun K' hK' => ?_
  obtain ⟨w', hrun, r1, r2⟩ := h.drop k hk o.type
  unfold Oper.wp
  simp [execOp, hop, resolve, invoke, builtin, hm, hx, hrun, Result.andThen]
  exact hK' _ _ (hK w' r1 r2)
def shift (M : RM) (i : Nat) : RM := fun j => if i < j ∧ j ≤ 57 then M (j - 1) else M j
theorem shift_57 (M : RM) : shift M 57 = M := by
  funext j
  unfold shift
  rw [if_neg (by omega)]
theorem shift_at (M : RM) (i : Nat) : shift M (i + 1) i = M i := by unfold shift; rw [if_neg (by omega)]
theorem shift_step (M : RM) (i : Nat) (h2 : i < 57) : upd (shift M (i + 1)) (i + 1) (M i) = shift M i := by
  funext j
  unfold upd shift
  by_cases he : j = i + 1
  · subst he
    rw [if_pos rfl, if_pos (by omega)]
    rfl
  · rw [if_neg he]
    by_cases h : i + 1 < j ∧ j ≤ 57
    · rw [if_pos h, if_pos (by omega)]
    · rw [if_neg h, if_neg (by omega)]
set_option maxRecDepth 100000 in
set_option maxHeartbeats 1600000 in
theorem delete_named (p b c nm k : Nat) (ln : Bool) (a : Option Addr) (m cp : Nat) (t : List UInt8) (M : RM) (w : World) (h : RegIs A w p b c M nm) (hc : c ≤ 1000000) (hk : k < 256) (hr : Rd w a m t) (hm : m ≤ cp) (hm2 : m ≤ 1048576)
    (hlen : 65 ≤ k ∧ k ≤ 90 → ((M (sm k)).getD (false, [])).2.length + 1 + t.length ≤ 1048576) (hp : ¬ (k = 0 ∨ k = 34)) :
    Calls Try.prog 11 #[.pointer (some ⟨p, 0, none⟩), .int .u8 k, .bool ln, .slice a m cp] w fun e w' => e = .returned (.bool (setOk (yk k))) ∧ RegIs A w' p b (c + 1) (setM M (yk k) ln t) (if setOk (yk k) = true then sm (yk k) else nm) ∧ Chg (fun j => j = p ∨ j = b) w w' := by
  have HPL := Lib.hid (plain_any k w)
  rw [decide_eq_false hp] at HPL
  have HMA := Lib.hid (made_any p b c nm M w h)
  have HYA := Lib.hid (yank_any p b c nm k ln a m cp t M w h hc hk hr hm hm2 hlen)
  clear h hr hp
  generalize (if setOk (yk k) = true then sm (yk k) else nm) = NM at *
  generalize setOk (yk k) = ok at *
  go_enter Try.func11, Try.ntmps11
  go_wp2_with fail
  refine HMA.out.mono ?_
  rintro e w1 ⟨rfl, rfl⟩
  go_wp2_with fail
  refine HPL.out.mono ?_
  rintro e w1 ⟨rfl, rfl⟩
  go_wp2_with fail
  refine HYA.out.mono ?_
  rintro e w2 ⟨rfl, h2, h3⟩
  go_wp2
  go_ret
  exact ⟨rfl, h2, h3⟩
set_option maxRecDepth 100000 in
set_option maxHeartbeats 1600000 in
theorem delete_plain (p b c nm k : Nat) (ln : Bool) (a : Option Addr) (m cp : Nat) (t : List UInt8) (M : RM) (w : World) (h : RegIs A w p b c M nm) (hc : c ≤ 900000) (hr : Rd w a m t) (hm : m ≤ cp) (hm2 : m ≤ 1048576) (hpb : ∀ q, a = some q → q.block ≠ p ∧ q.block ≠ b) (hp : k = 0 ∨ k = 34) :
    Calls Try.prog 11 #[.pointer (some ⟨p, 0, none⟩), .int .u8 k, .bool ln, .slice a m cp] w fun e w' => e = .returned (.bool true) ∧ RegIs A w' p b (c + 9) (upd (shift M 49) 49 (some (ln, t))) 49 ∧ Chg (fun j => j = p ∨ j = b) w w' := by
  have HPL := Lib.hid (plain_any k w)
  rw [decide_eq_true hp] at HPL
  have HMA := Lib.hid (made_any p b c nm M w h)
  have HR := Lib.hid hr
  have h0 : RegIs A w p b c (shift M 57) nm := by rw [shift_57]; exact h
  have H0 := Lib.hid h0
  clear h hr hp h0
  go_enter Try.func11, Try.ntmps11
  go_wp2_with fail
  refine HMA.out.mono ?_
  rintro e w1 ⟨rfl, rfl⟩
  go_wp2_with fail
  refine HPL.out.mono ?_
  rintro e w1 ⟨rfl, rfl⟩
  go_wp2
  go_loopw [9] (fun i wr => ∃ j : Nat, 49 ≤ j ∧ j ≤ 57 ∧ i = .int .u8 j ∧ RegIs A wr p b (c + (57 - j)) (shift M j) nm ∧ Chg (fun j => j = p ∨ j = b) w1 wr) (fun i _ => (intOf i).toNat)
  case atStart => exact ⟨57, by omega, by omega, rfl, H0.out, Chg.refl _ _⟩
  case round =>
    obtain ⟨j, hj1, hj2, rfl, hreg, hcr⟩ := hrel
    by_cases hlt : 49 < j
    · obtain ⟨i, rfl⟩ : ∃ i, j = i + 1 := ⟨j - 1, by omega⟩
      obtain ⟨h1, h2, h3, V, n, h4, h5, h6⟩ := hreg
      have hst := shift_step M i (by omega)
      have hat := shift_at M i
      have hlook := h4.look i (by omega)
      have hh := h6 i (by omega)
      rcases hMi : shift M (i + 1) i with _ | ⟨l', t'⟩
      case none =>
        rw [hMi] at hh
        have hV : V i = none := hh
        rw [hV] at hlook
        have hlk : (Instr.lookup 48 (.map (some b)) (.int .u8 i) true).run Try.prog wr = .ok (.tuple #[.agg #[.bool false, .slice none 0 0], .bool false]) wr := hlook
        rw [← hat, hMi] at hst
        have hbv : Below wr.heap.size wr (wr.alloc (.cells #[.bool false, .slice none 0 0] 54)) := (Below.refl _ wr).alloc (Nat.le_refl _) _
        have h1' := (hbv.block _ (lt_of_block h1)).trans h1
        have h4' := h4.below hbv
        have h6' := fun k hk => (h6 k hk).below hbv
        have gp := cell_blk h1
        have gp' := cell_blk h1'
        have H1 := Lib.hid h1'
        have H4 := Lib.hid h4'
        have H6 := Lib.hid h6'
        have HST := Lib.hid hst
        clear hlook hh hMi hat h1 h4 h6 h1' h4' h6' hst hV
        go_wp2_with (at_delete; refine wpList_drop _ rfl _ _ rfl b n V rfl H4.out (i + 1) (by omega) rfl ?_)
        intro w2 hms2 hg2
        obtain ⟨r1, r2⟩ := RegIs.drop (A := A) (c := c + (57 - i)) H1.out ⟨h2.1, h2.2.1, fun j hj => by have := h2.2.2 j hj; simp; omega⟩ h3 H4.out (by omega) H6.out hms2 hg2
        rw [HST.out] at r1
        have hcc := (hcr.trans (Chg.of_below hbv _)).trans r2
        have R1 := Lib.hid r1
        clear hms2 hg2 r1 r2 gp gp'
        go_wp2
        exact ⟨⟨i, by omega, by omega, by first | rfl | go_num, R1.out, hcc⟩, by simp [intOf]⟩
      case some =>
        rw [hMi] at hh
        obtain ⟨a', m', c', hV, -⟩ := hh
        rw [hV] at hlook
        have hlk : (Instr.lookup 48 (.map (some b)) (.int .u8 i) true).run Try.prog wr = .ok (.tuple #[.agg #[.bool l', .slice a' m' c'], .bool true]) wr := hlook
        rw [← hat] at hst
        have hbv : Below wr.heap.size wr (wr.alloc (.cells #[.bool l', .slice a' m' c'] 54)).drew := ⟨rfl, rfl, rfl, by simp, fun k hk => Below.heap_alloc _ _ _ hk⟩
        have hkv : (wr.alloc (.cells #[.bool l', .slice a' m' c'] 54)).drew.heap[wr.heap.size]? = some (.cells #[.bool l', .slice a' m' c'] 54 (0, 0)) := alloc_new wr _ _ rfl
        have hlb := h4.lt
        have h1' := (hbv.block _ (lt_of_block h1)).trans h1
        have h4' := h4.below hbv
        have h6' := fun k hk => (h6 k hk).below hbv
        have gp := cell_blk h1
        obtain ⟨w2, hrun, hms2, hg2⟩ := h4'.store (i + 1) (by omega) (show n < maxLen by unfold maxLen; omega) (.agg #[.bool l', .slice a' m' c'])
        have hrun' : (Instr.mapUpdate 48 (.map (some b)) (.int .u8 ((i : Int) + 1)) (.agg #[.bool l', .slice a' m' c'])).run Try.prog (wr.alloc (.cells #[.bool l', .slice a' m' c'] 54)).drew = .ok () w2 := hrun
        have hS1 : (∀ i, (wr.alloc (.cells #[.bool l', .slice a' m' c'] 54)).drew.cell? ⟨p, i, none⟩ = (#[.map (some b), .int .u8 nm] : Array Value)[i]?) ∧ ∀ i, (wr.alloc (.cells #[.bool l', .slice a' m' c'] 54)).drew.cell? ⟨wr.heap.size, i, none⟩ = (#[.bool l', .slice a' m' c'] : Array Value)[i]? := ⟨cell_blk h1', cell_blk hkv⟩
        have hS2 : (∀ i, w2.cell? ⟨p, i, none⟩ = (#[.map (some b), .int .u8 nm] : Array Value)[i]?) ∧ ∀ i, w2.cell? ⟨wr.heap.size, i, none⟩ = (#[.bool l', .slice a' m' c'] : Array Value)[i]? :=
          ⟨cell_blk ((hg2.block _ (lt_of_block h1') (by intro e; injection e with e; exact h2.1 e)).trans h1'), cell_blk ((hg2.block _ (lt_of_block hkv) (by intro e; injection e with e; omega)).trans hkv)⟩
        obtain ⟨r1, r2⟩ := RegIs.move (c := c + (57 - (i + 1))) (M := shift M (i + 1)) (j := i) h1' ⟨h2.1, h2.2.1, fun j hj => by have := h2.2.2 j hj; simp; omega⟩ h3 h4' h5 h6' (by omega) hV hms2 hg2
        rw [hst] at r1
        have r1 : RegIs A w2 p b (c + (57 - i)) (shift M i) nm := r1.mono (by omega)
        have hcc := (hcr.trans (Chg.of_below hbv _)).trans r2
        have R1 := Lib.hid r1
        have HS1 := Lib.hid hS1
        have HS2 := Lib.hid hS2
        clear hlook hMi hat h1 h4 h6 h1' h4' h6' hst hV hms2 hg2 r1 r2 hrun hS1 hS2 hkv hbv
        go_wp2
        go_region_held3 (fun w' => (∀ i, w'.cell? ⟨p, i, none⟩ = (#[.map (some b), .int .u8 nm] : Array Value)[i]?) ∧ ∀ i, w'.cell? ⟨wr.heap.size, i, none⟩ = (#[.bool l', .slice a' m' c'] : Array Value)[i]?)
          (first
            | exact HS1.out
            | exact HS2.out)
          (fail)
        all_goals
          go_wp2
          exact ⟨⟨i, by omega, by omega, by first | rfl | go_num, R1.out, hcc⟩, by simp [intOf]⟩
    · obtain rfl : j = 49 := by omega
      have hrt := HR.out.chg hcr (fun q hq => by have h := hpb q hq; intro h'; rcases h' with e | e; exact h.1 e; exact h.2 e)
      have hpu := put_any p b (c + (57 - 49)) nm 49 ln a m cp t (shift M 49) wr hreg (by omega) (by omega) hrt hm2
      have HPU := Lib.hid hpu
      clear hreg hrt hpu
      go_wp2_with fail
      refine HPU.out.mono ?_
      rintro e w3 ⟨⟨v, rfl⟩, hr3, hc3⟩
      have gp := cell_blk hr3.1
      have fp := free_blk hr3.1
      have HR3 := Lib.hid (hr3.mono (show c + (57 - 49) + 1 ≤ c + 9 by omega))
      have hcc := (hcr.trans hc3).setCell ⟨p, 1, none⟩ (.int .u8 49) (.inr (.inl rfl))
      clear hr3
      go_wp2
      go_ret
      exact ⟨rfl, HR3.out.name 49 (by omega), hcc⟩
end Go.Proofs.Ytleicgigkbfnbaa
