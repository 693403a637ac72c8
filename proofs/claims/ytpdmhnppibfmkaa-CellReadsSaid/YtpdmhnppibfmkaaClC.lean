/- The walk of chapter 8: numbers. -/
import Derived.Test.YtpdmhnppibfmkaaClB
namespace Go.Proofs.Ytpdmhnppibfmkaa
set_option linter.unusedVariables false
set_option linter.unusedSimpArgs false
open Go.RowKit

theorem intsT : SlT 61 3 1 8 := ⟨Try.underlying61, ⟨.int .i64 0, by kernel_rfl, rfl⟩, by omega⟩
/-- The first j numbers read; where the next one stands. -/
def atTo (ns : List Int) : Nat → Int
  | 0 => 0
  | j + 1 => atTo ns j + ns.getD j 0
def one1 (l : List UInt8) (at_ n : Int) : Int := if (P.get l at_ n).2 then (P.get l at_ n).1 else -1
def numTo (ns : List Int) (l : List UInt8) : Nat → List Int
  | 0 => []
  | j + 1 => numTo ns l j ++ [one1 l (atTo ns j) (ns.getD j 0)]
theorem numTo_length (ns : List Int) (l : List UInt8) (j : Nat) : (numTo ns l j).length = j := by induction j <;> simp [numTo, *]
theorem atTo_le (ns : List Int) (h : ∀ x ∈ ns, 1 ≤ x ∧ x ≤ 8) (j : Nat) (hj : j ≤ ns.length) : 0 ≤ atTo ns j ∧ atTo ns j ≤ 8 * j := by
  induction j with
  | zero => simp [atTo]
  | succ j ih =>
    have h1 := ih (by omega)
    have h2 := h (ns.getD j 0) (by rw [List.getD_eq_getElem?_getD, List.getElem?_eq_getElem (by omega)]; exact List.getElem_mem _)
    simp only [atTo]
    omega
theorem ivs_snoc (l : List Int) (x : Int) : ivs (l ++ [x]) = ivs l ++ [.int .i64 x] := by simp [ivs, iv]
set_option maxRecDepth 100000 in
set_option maxHeartbeats 1600000 in
theorem numbers_any (a : Option Addr) (n ca : Nat) (ns : List Int) (b : Option Addr) (m cb : Nat) (l : List UInt8) (w : World) (ha : RI w a n ns) (hb : Rd w b m l) (hn10 : n ≤ 10)
    (h1 : ∀ x ∈ ns, 1 ≤ x ∧ x ≤ 8) :
    Calls Try.prog 71 #[.slice a n ca, .slice b m cb] w fun e w' => ∃ v, e = .returned v ∧ OV w' w.heap.size 3 1 v n (ivs (numTo ns l n)) ∧ Below w.heap.size w w' := by
  have hln := ha.len
  have HA := Lib.hid ha
  have HB := Lib.hid hb
  have H1 := Lib.hid h1
  have HLL := Lib.hid (atTo_le ns h1)
  clear ha hb h1
  go_enter Try.func71, Try.ntmps71
  go_wp2
  go_loopw [5, 6, 13] (fun v at_ i wr => ∃ j : Nat, j ≤ n ∧ i = .int .i64 j ∧ at_ = .int .i64 (atTo ns j) ∧ (∃ a n c, v = .slice a n c) ∧ OV wr w.heap.size 3 1 v j (ivs (numTo ns l j)) ∧ Below w.heap.size w wr) (fun v _ i _ => n - (intOf i).toNat)
  case atStart => exact ⟨0, by omega, rfl, rfl, ⟨_, _, _, rfl⟩, OV.nil _ _ _ _, Below.refl _ _⟩
  case round =>
    obtain ⟨j, hj, rfl, rfl, ⟨av, nv, cv, rfl⟩, ho, hbr⟩ := hrel
    have HO := Lib.hid ho
    clear ho
    by_cases hlt : j < n
    · obtain ⟨p, rfl, hp⟩ := (HA.out.below hbr).at j (by omega)
      have hs := H1.out ns[j] (List.getElem_mem _)
      have hat := HLL.out j (by omega)
      have en : ns.getD j 0 = ns[j] := by simp [List.getD, show j < ns.length by omega]
      have hnx : numTo ns l (j + 1) = numTo ns l j ++ [one1 l (atTo ns j) ns[j]] := by rw [numTo, en]
      have hax : atTo ns (j + 1) = atTo ns j + ns[j] := by rw [atTo, en]
      rw [show one1 l (atTo ns j) ns[j] = if (P.get l (atTo ns j) ns[j]).2 then (P.get l (atTo ns j) ns[j]).1 else -1 from rfl] at hnx
      have HG := Lib.hid (get_any b m cb l (atTo ns j) ns[j])
      obtain ⟨N, hN⟩ : ∃ N : Int, N = ns[j] := ⟨_, rfl⟩
      obtain ⟨AT, hAT⟩ : ∃ N : Int, N = atTo ns j := ⟨_, rfl⟩
      rw [← hN, ← hAT] at HG hnx hax
      rw [← hN] at hs hp
      rw [← hAT] at hat ⊢
      generalize P.get l AT N = G at *
      obtain ⟨gv, gf⟩ := G
      simp only at hnx HG
      have lp : (p.add j).block < wr.heap.size := lt_of_cell hp
      have HNX := Lib.hid hnx
      have HAX := Lib.hid hax
      clear en hN hAT hnx hax
      rcases gf with _ | _
      case false =>
        go_wp2_with fail
        refine (HG.out _ (HB.out.below hbr) (by omega)).mono ?_
        rintro e wg ⟨rfl, hbg⟩
        have hbb := below_then hbr hbg hbr.size
        have hp' := (hbg.cell lp).trans hp
        have hbw : Below wg.heap.size wg (wg.alloc (.cells #[.int .i64 (-1)] 3)) := (Below.refl _ wg).alloc (Nat.le_refl _) _
        have HRX : Hid (RI (wg.alloc (.cells #[.int .i64 (-1)] 3)) (some ⟨wg.heap.size, 0, none⟩) 1 [(-1)]) := Lib.hid (RI_lit wg 3 [(-1)] (by simp [maxLen]))
        have hbr2 := hbg.trans (hbw.mono hbg.size)
        have hst : w.heap.size ≤ (wg.alloc (.cells #[.int .i64 (-1)] 3)).heap.size := by have := hbb.size; simp; omega
        go_wp2_with (at_builtin; refine wpList_appV intsT _ rfl _ _ rfl w.heap.size _ _ _ rfl (HO.out.below hbr2) _ _ _ _ rfl HRX.out (ivs_one _) ?c1 ?c2 hst ?_)
        case c1 => omega
        case c2 => omega
        intro v1 w1 hown1 hg1 hat1
        have hb1 : Below w.heap.size w w1 := (HO.out.below hbr2).grown (hbb.trans (hbw.mono hbb.size)) hst hg1
        rw [show ivs (numTo ns l j) ++ ivs [(-1)] = ivs (numTo ns l (j + 1)) by rw [HNX.out]; simp [ivs]] at hown1
        obtain ⟨a1, c1, hv1, -, -, -, -⟩ := hown1.form
        subst hv1
        have HO1 := Lib.hid hown1
        clear hown1 hg1 hat1 hp hp' hbw
        go_wp2
        go_roundw
        case rel => exact ⟨j + 1, by omega, by first | go_num | (simp; done), by first | (rw [HAX.out]; done) | (rw [HAX.out]; go_num), ⟨_, _, _, rfl⟩, HO1.out, hb1⟩
        case measure => simp [intOf]; omega
      case true =>
        go_wp2_with fail
        refine (HG.out _ (HB.out.below hbr) (by omega)).mono ?_
        rintro e wg ⟨rfl, hbg⟩
        have hbb := below_then hbr hbg hbr.size
        have hp' := (hbg.cell lp).trans hp
        have hbw : Below wg.heap.size wg (wg.alloc (.cells #[.int .i64 gv] 3)) := (Below.refl _ wg).alloc (Nat.le_refl _) _
        have HRX : Hid (RI (wg.alloc (.cells #[.int .i64 gv] 3)) (some ⟨wg.heap.size, 0, none⟩) 1 [gv]) := Lib.hid (RI_lit wg 3 [gv] (by simp [maxLen]))
        have hbr2 := hbg.trans (hbw.mono hbg.size)
        have hst : w.heap.size ≤ (wg.alloc (.cells #[.int .i64 gv] 3)).heap.size := by have := hbb.size; simp; omega
        go_wp2_with (at_builtin; refine wpList_appV intsT _ rfl _ _ rfl w.heap.size _ _ _ rfl (HO.out.below hbr2) _ _ _ _ rfl HRX.out (ivs_one _) ?c1 ?c2 hst ?_)
        case c1 => omega
        case c2 => omega
        intro v1 w1 hown1 hg1 hat1
        have hb1 : Below w.heap.size w w1 := (HO.out.below hbr2).grown (hbb.trans (hbw.mono hbb.size)) hst hg1
        rw [show ivs (numTo ns l j) ++ ivs [gv] = ivs (numTo ns l (j + 1)) by rw [HNX.out]; simp [ivs]] at hown1
        obtain ⟨a1, c1, hv1, -, -, -, -⟩ := hown1.form
        subst hv1
        have HO1 := Lib.hid hown1
        clear hown1 hg1 hat1 hp hp' hbw
        go_wp2
        go_roundw
        case rel => exact ⟨j + 1, by omega, by first | go_num | (simp; done), by first | (rw [HAX.out]; done) | (rw [HAX.out]; go_num), ⟨_, _, _, rfl⟩, HO1.out, hb1⟩
        case measure => simp [intOf]; omega
    · obtain rfl : j = n := by omega
      go_wp2
      go_ret
      exact ⟨_, rfl, HO.out, hbr⟩
end Go.Proofs.Ytpdmhnppibfmkaa
