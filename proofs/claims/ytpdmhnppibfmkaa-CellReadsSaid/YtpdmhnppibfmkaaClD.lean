/- The walk of chapter 8: Leaf. -/
import Derived.Test.YtpdmhnppibfmkaaClC
import Derived.Test.YtpdmhnppibfmkaaPgH
namespace Go.Proofs.Ytpdmhnppibfmkaa
set_option linter.unusedVariables false
set_option linter.unusedSimpArgs false
open Go.RowKit

def RQ (w : World) (a : Option Addr) (n : Nat) (l : List P.Q) : Prop := RV w a n 4 (qCs l)
theorem qCs_length (l : List P.Q) : (qCs l).length = l.length * 4 := by
  induction l with
  | nil => rfl
  | cons x l ih => simp only [qCs, List.map_cons, List.flatten_cons, List.length_append, List.length_cons] at ih ⊢; rw [ih]; simp [qC]; omega
theorem qCs_at (l : List P.Q) (i f : Nat) (hi : i < l.length) (hf : f < 4) : (qCs l)[i * 4 + f]? = (qC l[i])[f]? := by
  induction l generalizing i with
  | nil => simp at hi
  | cons x l ih =>
    have e : qCs (x :: l) = qC x ++ qCs l := rfl
    rw [e]
    cases i with
    | zero => rw [List.getElem?_append_left (by simp [qC]; omega)]; simp
    | succ i =>
      rw [List.getElem?_append_right (by simp [qC]; omega)]
      have := ih i (by simpa using hi)
      have hl : (qC x).length = 4 := rfl
      rw [hl, show (i + 1) * 4 + f - 4 = i * 4 + f by omega, this]
      simp
theorem RQ.len {w : World} {a : Option Addr} {n : Nat} {l : List P.Q} (h : RQ w a n l) : l.length = n := by have := h.1; rw [qCs_length] at this; omega
theorem add_off (p : Addr) (m f : Nat) (hf : 0 < f) : p.add (m + f) = ⟨(p.add m).block, (p.add m).off + f, none⟩ := by
  unfold Addr.add
  rw [if_neg (by omega)]
  split
  · rename_i h; subst h; simp
  · simp; omega
theorem RQ.at {w : World} {a : Option Addr} {n : Nat} {l : List P.Q} (h : RQ w a n l) (i : Nat) (hi : i < l.length) :
    ∃ p, a = some p ∧ w.cell? (p.add (i * 4)) = some (.int .i64 l[i].a) ∧ w.cell? ⟨(p.add (i * 4)).block, (p.add (i * 4)).off + 1, none⟩ = some (.int .i64 l[i].b) ∧
      w.cell? ⟨(p.add (i * 4)).block, (p.add (i * 4)).off + 2, none⟩ = some (.int .i64 l[i].c) ∧ w.cell? ⟨(p.add (i * 4)).block, (p.add (i * 4)).off + 3, none⟩ = some (.int .i64 l[i].d) := by
  have hl := qCs_length l
  have hc : ∀ f, f < 4 → ∀ p, a = some p → w.cell? (p.add (i * 4 + f)) = (qC l[i])[f]? := by
    intro f hf p hp
    obtain ⟨q, e, hq⟩ := RV.at h (i * 4 + f) (by omega)
    rw [hp] at e; cases e
    rw [hq, ← qCs_at l i f hi hf, List.getElem?_eq_getElem (by omega)]
  obtain ⟨p, rfl, _⟩ := RV.at h (i * 4) (by omega)
  exact ⟨p, rfl, hc 0 (by omega) p rfl, by rw [← add_off _ _ 1 (by omega)]; exact hc 1 (by omega) p rfl, by rw [← add_off _ _ 2 (by omega)]; exact hc 2 (by omega) p rfl, by rw [← add_off _ _ 3 (by omega)]; exact hc 3 (by omega) p rfl⟩
theorem RQ.below {w w' : World} {a : Option Addr} {n : Nat} {l : List P.Q} (h : RQ w a n l) (hb : Below w.heap.size w w') : RQ w' a n l := RV.below h hb

theorem layP_ok (x : P.Q) (h : x.mayP = true) : ∀ i, i < 5 → 0 ≤ [x.a, x.b, x.c, x.d, 0].getD i 0 ∧ [x.a, x.b, x.c, x.d, 0].getD i 0 ≤ 1152921504606846976 ∧ [x.a, x.b, x.c, x.d, 0].getD i 0 < 256 ^ (([4, 2, 2, 2, 2] : List Int).getD i 0).toNat := by
  have hm := x.mayP_iff.1 h
  intro i hi
  match i, hi with
  | 0, _ => exact ⟨by show 0 ≤ x.a; omega, by show x.a ≤ _; omega, by show x.a < 256 ^ 4; omega⟩
  | 1, _ => exact ⟨by show 0 ≤ x.b; omega, by show x.b ≤ _; omega, by show x.b < 256 ^ 2; omega⟩
  | 2, _ => exact ⟨by show 0 ≤ x.c; omega, by show x.c ≤ _; omega, by show x.c < 256 ^ 2; omega⟩
  | 3, _ => exact ⟨by show 0 ≤ x.d; omega, by show x.d ≤ _; omega, by show x.d < 256 ^ 2; omega⟩
  | 4, _ => exact ⟨by show (0 : Int) ≤ 0; omega, by show (0 : Int) ≤ _; omega, by show (0 : Int) < 256 ^ 2; omega⟩
theorem layK_ok (x : P.Q) (h : x.mayK = true) : ∀ i, i < 4 → 0 ≤ [x.a, x.b, x.c, x.d].getD i 0 ∧ [x.a, x.b, x.c, x.d].getD i 0 ≤ 1152921504606846976 ∧ [x.a, x.b, x.c, x.d].getD i 0 < 256 ^ (([4, 4, 8, 4] : List Int).getD i 0).toNat := by
  have hm := x.mayK_iff.1 h
  intro i hi
  match i, hi with
  | 0, _ => exact ⟨by show 0 ≤ x.a; omega, by show x.a ≤ _; omega, by show x.a < 256 ^ 4; omega⟩
  | 1, _ => exact ⟨by show 0 ≤ x.b; omega, by show x.b ≤ _; omega, by show x.b < 256 ^ 4; omega⟩
  | 2, _ => exact ⟨by show 0 ≤ x.c; omega, by show x.c ≤ _; omega, by show x.c < 256 ^ 8; omega⟩
  | 3, _ => exact ⟨by show 0 ≤ x.d; omega, by show x.d ≤ _; omega, by show x.d < 256 ^ 4; omega⟩
set_option maxRecDepth 100000 in
set_option maxHeartbeats 1600000 in
theorem leaf_fun (a : Option Addr) (n ca : Nat) (l : List P.Q) (w : World) (ha : RQ w a n l) :
    Calls Try.prog 30 #[.slice a n ca] w fun e w' => ∃ v, e = .returned (.tuple #[v, .int .i64 (P.leafErr l)]) ∧ OB w' w.heap.size v (P.leafB l) ∧ Below w.heap.size w w' := by
  have hln := ha.len
  have HA := Lib.hid ha
  by_cases hlen : 1 ≤ n ∧ n ≤ 20
  case neg =>
    have e1 : P.leafErr l = 1 := by unfold P.leafErr; rw [if_neg (by omega)]
    have e2 : P.leafB l = [] := by unfold P.leafB; rw [if_neg (by omega)]
    rw [e1, e2]
    clear ha e1 e2
    go_enter Try.func30, Try.ntmps30
    go_wp2
    all_goals
      first
        | (exfalso; omega)
        | (go_ret2; exact ⟨_, rfl, OB.nil _ _, Below.refl _ _⟩)
  case pos =>
    obtain ⟨hl1, hl2⟩ := hlen
    have hbad : ∀ j (hj : j < l.length), l[j].mayP = false → P.leafErr l = 1 ∧ P.leafB l = [] := by
      intro j hj hm
      have e1 : P.leafErr l = 1 := by
        unfold P.leafErr
        rw [if_neg]
        rintro ⟨-, -, h⟩
        rw [List.all_eq_true] at h
        rw [h _ (List.getElem_mem hj)] at hm
        cases hm
      exact ⟨e1, by unfold P.leafB; rw [if_neg (by omega)]⟩
    have hgood : (∀ j (hj : j < l.length), l[j].mayP = true) → P.leafErr l = 0 ∧ P.leafB l = P.sealB 3 0 n (P.encAll P.Q.encP l) ∧ P.sealErr 3 0 n (P.encAll P.Q.encP l).length = 0 := by
      intro h
      have e1 : P.leafErr l = 0 := by
        unfold P.leafErr
        rw [if_pos]
        refine ⟨by omega, by omega, ?_⟩
        rw [List.all_eq_true]
        intro x hx
        obtain ⟨j, hj, rfl⟩ := List.getElem_of_mem hx
        exact h j hj
      have e2 := P.seal_leaf l e1
      rw [hln] at e2
      refine ⟨e1, ?_, e2⟩
      unfold P.leafB P.sealB
      rw [if_pos e1, if_pos e2, hln]
      simp
    have HBAD := Lib.hid hbad
    have HGOOD := Lib.hid hgood
    have HTL := Lib.hid (fun j (hj : j < l.length) => show P.encAll P.Q.encP (l.take (j + 1)) = P.encAll P.Q.encP (l.take j) ++ l[j].encP by rw [List.take_succ_eq_append_getElem hj, P.encAll_snoc])
    have HLN := Lib.hid (fun j => P.encAll_length P.Q.encP 12 P.Q.encP_length (l.take j))
    obtain ⟨E, hE⟩ : ∃ E, E = P.leafErr l := ⟨_, rfl⟩
    obtain ⟨K, hK⟩ : ∃ K, K = P.leafB l := ⟨_, rfl⟩
    rw [← hE, ← hK] at HBAD HGOOD ⊢
    clear ha hbad hgood hE hK
    go_enter Try.func30, Try.ntmps30
    go_wp2
    go_loopw [4, 17] (fun v i wr => ∃ j : Nat, j ≤ n ∧ i = .int .i64 j ∧ (∃ a n c, v = .slice a n c) ∧ OB wr w.heap.size v (P.encAll P.Q.encP (l.take j)) ∧ (∀ k (hk : k < l.length), k < j → l[k].mayP = true) ∧ Below w.heap.size w wr) (fun v i _ => n - (intOf i).toNat)
    case atStart => exact ⟨0, by omega, rfl, ⟨_, _, _, rfl⟩, by simpa [P.encAll] using OB.nil _ _, fun k _ h => by omega, Below.refl _ _⟩
    case round =>
      obtain ⟨j, hj, rfl, ⟨av, nv, cv, rfl⟩, ho, hpre, hbr⟩ := hrel
      have HO := Lib.hid ho
      have HPRE := Lib.hid hpre
      clear ho hpre
      by_cases hlt : j < n
      · obtain ⟨p, rfl, hp0, hp1, hp2, hp3⟩ := (HA.out.below hbr).at j (by omega)
        have lp : (p.add (j * 4)).block < wr.heap.size := lt_of_cell hp0
        have hm := fun w => mayP_any l[j] w
        have hbd := HBAD.out j (by omega)
        have htl := HTL.out j (by omega)
        have hll := HLN.out j
        have hpj := fun (k : Nat) (hk : k < l.length) (hkj : k < j + 1) (h : l[j].mayP = true) => show l[k].mayP = true by
          rcases Nat.lt_or_ge k j with h0 | h0
          · exact HPRE.out k hk h0
          · obtain rfl : k = j := by omega
            exact h
        have hen := P.Q.encP_length l[j]
        generalize hQ : l[j] = Q at *
        obtain ⟨A, B, C, D⟩ := Q
        unfold qV at hm
        simp only at hm hp0 hp1 hp2 hp3
        have HM := Lib.hid hm
        have HBD := Lib.hid hbd
        have HTJ := Lib.hid htl
        have HPJ := Lib.hid hpj
        have HQ := Lib.hid hQ
        clear hm hbd htl hpj hQ
        have hbw : Below wr.heap.size wr (wr.alloc (.cells #[.int .i64 A, .int .i64 B, .int .i64 C, .int .i64 D] 75)) := (Below.refl _ wr).alloc (Nat.le_refl _) _
        have hnew : (wr.alloc (.cells #[.int .i64 A, .int .i64 B, .int .i64 C, .int .i64 D] 75)).heap[wr.heap.size]? = _ := alloc_new _ _ _ rfl
        rcases hmay : P.Q.mayP ⟨A, B, C, D⟩ with _ | _
        case false =>
          obtain ⟨z1, z2⟩ := HBD.out hmay
          rw [hmay] at HM
          go_wp2_with fail
          refine (HM.out _).mono ?_
          rintro e wg ⟨rfl, hbg⟩
          have hbb := below_then (below_then hbr hbw hbr.size) hbg (below_then hbr hbw hbr.size).size
          go_wp2
          go_ret2
          exact ⟨_, by rw [z1]; rfl, by rw [z2]; exact OB.nil _ _, hbb⟩
        case true =>
          rw [hmay] at HM
          go_wp2_with fail
          refine (HM.out _).mono ?_
          rintro e wg ⟨rfl, hbg⟩
          have hbb := below_then (below_then hbr hbw hbr.size) hbg (below_then hbr hbw hbr.size).size
          have hn2 := (hbg.block _ (lt_of_block hnew)).trans hnew
          have gq := cell_blk hn2
          have lw : wr.heap.size < wg.heap.size := lt_of_block hn2
          go_wp2_with fail
          have hb1 : Below wg.heap.size wg (wg.alloc (.cells #[.int .i64 4, .int .i64 2, .int .i64 2, .int .i64 2, .int .i64 2] 3)) := (Below.refl _ wg).alloc (Nat.le_refl _) _
          have hb2 : Below wg.heap.size wg ((wg.alloc (.cells #[.int .i64 4, .int .i64 2, .int .i64 2, .int .i64 2, .int .i64 2] 3)).alloc (.cells #[.int .i64 A, .int .i64 B, .int .i64 C, .int .i64 D, .int .i64 0] 3)) := hb1.alloc hb1.size _
          have hr1 : RI ((wg.alloc (.cells #[.int .i64 4, .int .i64 2, .int .i64 2, .int .i64 2, .int .i64 2] 3)).alloc (.cells #[.int .i64 A, .int .i64 B, .int .i64 C, .int .i64 D, .int .i64 0] 3)) (some ⟨wg.heap.size, 0, none⟩) 5 [4, 2, 2, 2, 2] := RI.below (RI_lit wg 3 [4, 2, 2, 2, 2] (by simp [maxLen])) ((Below.refl _ _).alloc (Nat.le_refl _) _)
          have hr2 : RI ((wg.alloc (.cells #[.int .i64 4, .int .i64 2, .int .i64 2, .int .i64 2, .int .i64 2] 3)).alloc (.cells #[.int .i64 A, .int .i64 B, .int .i64 C, .int .i64 D, .int .i64 0] 3)) (some ⟨wg.heap.size + 1, 0, none⟩) 5 [A, B, C, D, 0] := by
            have h := RI_lit (wg.alloc (.cells #[.int .i64 4, .int .i64 2, .int .i64 2, .int .i64 2, .int .i64 2] 3)) 3 [A, B, C, D, 0] (fr := (0, 0)) (by simp [maxLen])
            have e : (wg.alloc (.cells #[.int .i64 4, .int .i64 2, .int .i64 2, .int .i64 2, .int .i64 2] 3)).heap.size = wg.heap.size + 1 := by simp
            rw [e] at h
            exact h
          generalize ((wg.alloc (.cells #[.int .i64 4, .int .i64 2, .int .i64 2, .int .i64 2, .int .i64 2] 3)).alloc (.cells #[.int .i64 A, .int .i64 B, .int .i64 C, .int .i64 D, .int .i64 0] 3)) = wl at *
          refine (lay_any _ _ _ _ _ _ _ _ _ hr1 hr2 (by omega) (by omega) (by simp) (layP_ok ⟨A, B, C, D⟩ hmay)).mono ?_
          rintro e wp ⟨vp, rfl, hop, hbp⟩
          rw [layP ⟨A, B, C, D⟩] at hop
          obtain ⟨ap, pp, hvp, hrp, -, -, -⟩ := hop.form
          subst hvp
          have hbt : Below wr.heap.size wr wp := ((hbw.trans (hbg.mono hbw.size)).trans (hb2.mono (by omega))).trans (hbp.mono (by have := hb2.size; omega))
          have hst : w.heap.size ≤ wp.heap.size := by have := hbt.size; have := hbr.size; omega
          have HRP := Lib.hid hrp
          have HBT := Lib.hid hbt
          have hlt2 : (l.take j).length = j := by simp; omega
          rw [hlt2] at hll
          clear hop hrp hb1 hb2 hr1 hr2 hbp gq hn2 hp0 hp1 hp2 hp3
          go_wp2_with (at_builtin; refine wpList_app _ rfl _ _ rfl w.heap.size _ _ rfl (HO.out.below HBT.out) _ _ _ _ rfl HRP.out ?c1 hst ?_)
          case c1 => omega
          intro v1 w1 hown1 hg1 hat1
          have hb1 : Below w.heap.size w w1 := (HO.out.below HBT.out).grown (below_then hbr HBT.out hbr.size) hst hg1
          rw [← HTJ.out] at hown1
          obtain ⟨a1, c1, hv1, -, -, -, -⟩ := hown1.form
          subst hv1
          have HO1 := Lib.hid hown1
          clear hown1 hg1 hat1
          go_wp2
          go_roundw
          case rel => exact ⟨j + 1, by omega, by first | go_num | (simp; done), ⟨_, _, _, rfl⟩, HO1.out, fun k hk hkj => HPJ.out k hk hkj (by rw [HQ.out]; exact hmay), hb1⟩
          case measure => simp [intOf]; omega
      · obtain rfl : j = n := by omega
        have hg := HGOOD.out (fun k hk => HPRE.out k hk (by omega))
        have ho := HO.out
        rw [List.take_of_length_le (by omega)] at ho
        obtain ⟨a2, c2, hv2, hr2, -, -, -⟩ := ho.form
        cases hv2
        have HR2 := Lib.hid hr2
        have HG := Lib.hid hg
        clear hg ho hr2
        go_wp2_with fail
        refine (seal_fun 3 0 j _ _ _ _ _ HR2.out).mono ?_
        rintro e wz ⟨vz, rfl, hownz, hbz⟩
        obtain ⟨az, pz, hvz, -, -, -, -⟩ := hownz.form
        subst hvz
        have HOZ := Lib.hid (hownz.mono (show w.heap.size ≤ _ from hbr.size))
        have hbz' := below_then hbr hbz hbr.size
        clear hownz
        go_wp2
        go_ret2
        exact ⟨_, by rw [HG.out.1, HG.out.2.2]; rfl, by rw [HG.out.2.1]; exact HOZ.out, hbz'⟩
end Go.Proofs.Ytpdmhnppibfmkaa
