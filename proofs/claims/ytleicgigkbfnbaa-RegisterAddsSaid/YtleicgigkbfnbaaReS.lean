/- The walk of the law RegisterAdds. -/
import Derived.Test.YtleicgigkbfnbaaReH
import Derived.Test.YtleicgigkbfnbaaReR
import Derived.Test.YtleicgigkbfnbaaSam
import Derived.Test.YtleicgigkbfnbaaRb
import Derived.BigQuiet
namespace Go.Proofs.Ytleicgigkbfnbaa
set_option linter.unusedVariables false
set_option linter.unusedSimpArgs false
open Go.RowKit
attribute [local irreducible] wpQuiet

/-- What stands in the register behind j additions. -/
def addTo (ln : Bool) (L : List (List UInt8)) : Nat → List UInt8
  | 0 => []
  | j + 1 => nl ln (addTo ln L j) ++ L.getD j []
theorem nl_len (ln : Bool) (v : List UInt8) : (nl ln v).length ≤ v.length + 1 := by unfold nl; split <;> simp
theorem addTo_len (ln : Bool) (L : List (List UInt8)) (j : Nat) (h : ∀ i, i < j → (L.getD i []).length ≤ 100) : (addTo ln L j).length ≤ 101 * j := by
  induction j with
  | zero => simp [addTo]
  | succ j ih =>
    have h1 := ih (fun i hi => h i (by omega))
    have h2 := h j (by omega)
    have h3 := nl_len ln (addTo ln L j)
    simp only [addTo, List.length_append]
    omega
def MA (ln : Bool) (t : List UInt8) (j : Nat) : RM := fun k => if k = 113 ∧ 0 < j then some (ln, t) else none
theorem MA_set (ln : Bool) (L : List (List UInt8)) (j : Nat) : setM (MA ln (addTo ln L j) j) 81 ln (L.getD j []) = MA ln (addTo ln L (j + 1)) (j + 1) := by
  have h1 : ownN 81 = false := rfl
  have h2 : sm 81 = 113 := rfl
  unfold setM
  rw [h1, if_neg (by simp), if_pos (⟨by decide, by decide⟩ : 65 ≤ 81 ∧ 81 ≤ 90), h2]
  funext k
  unfold upd
  by_cases hk : k = 113
  · subst hk
    rw [if_pos rfl]
    unfold MA
    rw [if_pos (⟨rfl, Nat.succ_pos j⟩ : (113 : Nat) = 113 ∧ 0 < j + 1)]
    rcases j with _ | j
    · have e : nl ln ([] : List UInt8) = [] := by unfold nl; simp
      simp [addTo, e]
    · simp [addTo]
  · rw [if_neg hk]
    unfold MA
    rw [if_neg (fun h => hk h.1), if_neg (fun h => hk h.1)]
theorem MA_own (ln : Bool) (t : List UInt8) (j : Nat) : Own (MA ln t j) := by
  intro k hk hM
  unfold MA at hM
  split at hM
  · rename_i h
    obtain ⟨rfl, -⟩ := h
    exact ⟨by omega, rfl⟩
  · exact absurd rfl hM
theorem MA_keys (ln : Bool) (t : List UInt8) (j : Nat) (ks : List UInt8) (h : KeysOf (MA ln t j) ks) : ks.length = min j 1 := by
  obtain ⟨h1, h2⟩ := h
  have hx : ∀ x : UInt8, x ∈ ks ↔ (x = 113 ∧ 0 < j) := fun x => by
    rw [h2 x]
    unfold MA
    by_cases hc : x.toNat = 113 ∧ 0 < j
    · rw [if_pos hc]
      simp only [Option.isSome_some, true_iff]
      exact ⟨UInt8.toNat_inj.1 hc.1, hc.2⟩
    · rw [if_neg hc]
      simp only [Option.isSome_none, Bool.false_eq_true, false_iff]
      rintro ⟨rfl, h⟩
      exact hc ⟨rfl, h⟩
  rcases j with _ | j
  · rcases ks with _ | ⟨x, ks⟩
    · rfl
    · exact absurd ((hx x).1 (by simp)).2 (by omega)
  · have h3 := (hx 113).2 ⟨rfl, by omega⟩
    rcases ks with _ | ⟨x, _ | ⟨y, ks⟩⟩
    · simp at h3
    · simp only [List.length_singleton]; omega
    · exfalso
      have hx1 := ((hx x).1 (by simp)).1
      have hy1 := ((hx y).1 (by simp)).1
      subst hx1 hy1
      simp at h1
theorem yk81 : yk 81 = 81 := rfl
theorem so81 : setOk 81 = true := rfl
theorem sm81 (nm : Nat) : (if (true : Bool) = true then sm 81 else nm) = 113 := rfl
theorem MA_at (ln : Bool) (t : List UInt8) (j k : Nat) (hk : gk 113 k = 113) : MA ln t (j + 1) (gk 113 k) = some (ln, t) := by
  rw [hk]
  unfold MA
  rw [if_pos ⟨rfl, by omega⟩]
theorem OB.rd {w : World} {B n c : Nat} {a : Option Addr} {X : List UInt8} (hn : n = X.length) (h : OB w B (.slice a n c) X) : Rd w a n X := by
  obtain ⟨a', c', e, hr, -⟩ := h.form
  injection e with e1 e2 e3
  subst e1
  rw [hn]
  exact hr
/-- What the texts of the registers avoid: the registers' own block, and that of the row v. -/
def avoid (p : Nat) (v : Value) : Nat → Prop := fun k => k = p ∨ v.ownBlock = some k
/-- The row v was added to. -/
theorem avoid_step {w w' : World} {p b c nm B : Nat} {M : RM} {v v' : Value} {X Y : List UInt8} (h : RegIs (avoid p v) w p b c M nm) (ho : OB w B v X) (ho' : OB w' B v' Y) (hg : w.grownBy w' v.ownBlock) (hv : v'.ownBlock = v.ownBlock ∨ v'.ownBlock = some w.heap.size) (hp : p < B) (hb : b < B) : RegIs (avoid p v') w' p b c M nm := by
  refine h.grow hg (fun r e => ⟨.inr e, ?_⟩) (fun j hj => ?_) (.inl rfl)
  · have := OBr.base ho r e
    omega
  · rcases hj with rfl | hj
    · exact ⟨.inl (.inl rfl), Nat.lt_of_lt_of_le h.lt.1 hg.size⟩
    · obtain ⟨cur, hc⟩ := OBr.cells ho' j hj
      refine ⟨?_, lt_of_block hc⟩
      rcases hv with e | e
      · exact .inl (.inr (e.symm.trans hj))
      · rw [e] at hj
        injection hj with hj
        exact .inr (by omega)
set_option maxRecDepth 100000 in
set_option maxHeartbeats 6400000 in
theorem registerAdds_walk (a : Option Addr) (n ca : Nat) (L : List (List UInt8)) (ln : Bool) (w : World) (hr : RB w a n L) (hc : n ≤ ca) :
    Calls Try.prog 5 #[.slice a n ca, .bool ln] w fun e w' => e = .returned (.bool true) ∧ Below w.heap.size w w' := by
  have HL := Lib.hid hr.1
  have HR := Lib.hid hr
  by_cases hg : n ≤ 40
  case neg =>
    have hq : 40 < (n : Int) := by omega
    clear hg hr
    go_enter Try.func5, Try.ntmps5
    go_wp2_with fail
    refine (awake21_any _).mono ?_
    rintro e w1 ⟨rfl, hb⟩
    go_wp2
    go_ret
    exact ⟨rfl, hb⟩
  case pos =>
    have c2 : decide (40 < (n : Int)) = false := decide_eq_false (by omega)
    clear hr
    go_enter Try.func5, Try.ntmps5
    go_wp2_with fail
    refine (awake21_any _).mono ?_
    rintro e w1 ⟨rfl, hb1⟩
    go_wp2_with fail
    refine (new_any _).mono ?_
    rintro e w2 ⟨rfl, hr2, hb2⟩
    obtain ⟨b, hbe⟩ : ∃ b, b = w1.heap.size := ⟨_, rfl⟩
    rw [← hbe] at hr2 hb2 ⊢
    have hB : w.heap.size ≤ b := by rw [hbe]; exact hb1.size
    have hbb2 : Below w.heap.size w w2 := hb1.trans (hb2.mono hB)
    have hr2' : RegIs (avoid (b + 1) (.slice none 0 0)) w2 (b + 1) b 0 (MA ln (addTo ln L 0) 0) 48 := by
      have e : MA ln (addTo ln L 0) 0 = fun _ => none := by
        funext k
        unfold MA
        rw [if_neg (by omega)]
      rw [e]
      have h0 : w2.grownBy w2 none := ⟨rfl, rfl, rfl, Nat.le_refl _, fun _ _ _ => rfl⟩
      refine hr2.grow h0 (fun r e => by cases e) (fun j hj => ?_) (.inl rfl)
      rcases hj with rfl | hj
      · exact ⟨.inl rfl, hr2.lt.1⟩
      · cases hj
    have hB2 : b + 2 ≤ w2.heap.size := hr2.lt.1
    have HR2 := Lib.hid hr2'
    clear hbe hb1 hb2 hr2 hr2'
    go_wp2
    go_loopw [6, 7] (fun v i wr => ∃ j : Nat, j ≤ n ∧ i = .int .i64 j ∧ (∃ a n c, v = .slice a n c) ∧ (∀ i, i < j → (L.getD i []).length ≤ 100) ∧ (∃ nm, RegIs (avoid (b + 1) v) wr (b + 1) b j (MA ln (addTo ln L j) j) nm) ∧ OB wr (b + 2) v (addTo ln L j) ∧ Below w.heap.size w wr ∧ b + 2 ≤ wr.heap.size) (fun v i _ => n - (intOf i).toNat)
    case atStart => exact ⟨0, by omega, rfl, ⟨_, _, _, rfl⟩, fun i hi => absurd hi (Nat.not_lt_zero _), ⟨_, HR2.out⟩, OB.nil _ _, hbb2, hB2⟩
    case round =>
      obtain ⟨j, hj, rfl, ⟨va, vn, vc, rfl⟩, hsm, ⟨nm, hreg⟩, hob, hbr, hB3⟩ := hrel
      by_cases hlt : j < n
      · have hjl : j < L.length := by have := HL.out; omega
        obtain ⟨p0, ap, cp, rfl, hcell0, hrt0, hct⟩ := HR.out.2.2 j hjl
        have hgd : L.getD j [] = L[j] := by simp [List.getD, hjl]
        obtain ⟨t, ht⟩ : ∃ t, t = L[j] := ⟨_, rfl⟩
        rw [← ht] at hcell0 hrt0 hct hgd
        obtain ⟨tn, htn⟩ : ∃ tn, tn = t.length := ⟨_, rfl⟩
        rw [← htn] at hcell0 hrt0 hct
        have hrt := hrt0.below hbr
        have hcell := (hbr.cell (lt_of_cell hcell0)).trans hcell0
        have HCELL := Lib.hid hcell0
        have HRT := Lib.hid hrt0
        clear hcell0 hrt0
        have hjj : j < 40 := by omega
        by_cases h100 : 100 < tn
        · have d1 : (100 : Int) < (tn : Int) := by omega
          clear hreg hob hrt htn ht hgd hsm
          go_wp2
          go_ret
          exact ⟨rfl, hbr⟩
        · have d1 : (tn : Int) ≤ 100 := by omega
          have d2 : decide (100 < (tn : Int)) = false := decide_eq_false (by omega)
          have hsm2 : ∀ i, i < j + 1 → (L.getD i []).length ≤ 100 := fun i hi => by
            rcases Nat.lt_or_ge i j with h | h
            · exact hsm i h
            · obtain rfl : i = j := by omega
              rw [hgd, ← htn]
              omega
          have hal := addTo_len ln L j hsm
          have hal2 := addTo_len ln L (j + 1) hsm2
          have hset := MA_set ln L j
          have hadd : addTo ln L (j + 1) = nl ln (addTo ln L j) ++ t := by simp only [addTo, hgd]
          rw [hgd] at hset
          have hy := yank_any _ _ _ _ 81 ln ap tn cp t _ _ hreg (by omega) (by omega) hrt hct (by omega) (fun _ => by
            show ((MA ln (addTo ln L j) j 113).getD (false, [])).2.length + 1 + t.length ≤ 1048576
            unfold MA
            split
            · simp; omega
            · simp; omega)
          rw [yk81, hset, so81, sm81] at hy
          have HY := Lib.hid hy
          have HOB := Lib.hid hob
          have HSM2 := Lib.hid hsm2
          have HADD := Lib.hid hadd
          have hlt3 := hreg.lt
          have hnl := nl_len ln (addTo ln L j)
          obtain ⟨AC, hAC⟩ : ∃ AC, AC = addTo ln L j := ⟨_, rfl⟩
          obtain ⟨AD, hAD⟩ : ∃ AD, AD = addTo ln L (j + 1) := ⟨_, rfl⟩
          rw [← hAC] at HOB HADD hal hnl
          rw [← hAD] at HY HADD hal2
          have HAD := Lib.hid hAD
          have HTN := Lib.hid htn
          clear hAC hAD hset hy hob hreg hgd hadd htn ht
          go_wp2_with fail
          refine HY.out.mono ?_
          rintro e w3 ⟨rfl, hr3, hc3⟩
          have hbb3 := below_chg2 hbr hc3 (by omega) hB (Nat.le_refl _)
          have hos : ∀ k, (Value.slice va vn vc).ownBlock = some k → ¬ (k = b + 1 ∨ k = b) := fun k hk => by
            have := OBr.base HOB.out k hk
            omega
          have hb3s : b + 2 ≤ w3.heap.size := Nat.le_trans hB3 hc3.size
          have hob3 := HOB.out.chg hc3 hos
          have hcell := (hbb3.cell (lt_of_cell HCELL.out)).trans HCELL.out
          have hvn := hob3.len
          subst hvn
          have HR3 := Lib.hid hr3
          have HO3 := Lib.hid hob3
          clear hr3 hob3 hc3 hos HY HOB hrt hsm hsm2
          obtain ⟨acn, hacn⟩ : ∃ m, m = AC.length := ⟨_, rfl⟩
          rw [← hacn] at HR3 HO3 hal hnl ⊢
          have HACN := Lib.hid hacn
          clear hacn
          rcases ln with _ | _
          case false =>
            have HAD5 : Hid (AD = AC ++ t) := by rw [Hid, HADD.out]; unfold nl; simp
            have HX5N := HACN
            obtain ⟨w5, hw5⟩ : ∃ x, x = w3 := ⟨_, rfl⟩
            subst hw5
            have HO5 := HO3
            have HR5 := HR3
            have hbb5 := hbb3
            have hb5s := hb3s

            go_wp2_with (at_builtin; refine wpList_app _ rfl _ _ rfl (b + 2) _ _ rfl HO5.out _ _ _ _ rfl (HRT.out.below hbb5) ?c1 ?c2 ?_)
            case c1 => have := HX5N.out; omega
            case c2 => exact hb5s
            intro v6 w6 ho6 hg6 hat6
            have hr6 := avoid_step HR5.out HO5.out ho6 hg6 hat6 (by omega) (by omega)
            have hbb6 : Below w.heap.size w w6 := hbb5.grown hg6 (by omega) (fun r e => by have := OBr.base HO5.out r e; omega)
            have hb6s : b + 2 ≤ w6.heap.size := Nat.le_trans hb5s hg6.size
            rw [← HAD5.out] at ho6
            obtain ⟨a6, c6, hv6, -⟩ := ho6.form
            subst hv6
            obtain ⟨adn, hadn⟩ : ∃ m, m = AD.length := ⟨_, rfl⟩
            rw [← hadn] at ho6 hr6 hal2 ⊢
            have hg1 := get_some (b + 1) b (j + 1) 113 113 _ w6 hr6 (by omega) false AD (MA_at _ _ _ _ rfl)
            have HG1 := Lib.hid hg1
            have HR6 := Lib.hid hr6
            have HO6 := Lib.hid ho6
            have HADN := Lib.hid hadn
            clear hg1 hr6 ho6 hg6 hat6 hadn hcell
            go_wp2_with fail
            refine HG1.out.mono ?_
            rintro e w7 ⟨v7, rfl, ho7, hb7⟩
            obtain ⟨a7, c7, hv7, -⟩ := ho7.form
            subst hv7
            rw [← HADN.out] at ho7 ⊢
            rw [show gk 113 113 = 113 from rfl]
            obtain ⟨w7x, hw7⟩ : ∃ x, x = w7.alloc (.cells #[.int .u8 113, .bool false, .slice a7 adn c7] 28) := ⟨_, rfl⟩
            have hb7x : Below w7.heap.size w7 w7x := by rw [hw7]; exact (Below.refl _ w7).alloc (Nat.le_refl _) _
            have hb67 := hb7.trans (hb7x.mono hb7.size)
            have hk7 : w7x.heap[w7.heap.size]? = some (.cells #[.int .u8 113, .bool false, .slice a7 adn c7] 28 (0, 0)) := by rw [hw7]; exact alloc_new _ _ _ rfl
            have hg2 := get_some (b + 1) b (j + 1) 113 34 _ w7x (HR6.out.below hb67) (by omega) false AD (MA_at _ _ _ _ rfl)
            have HO7 := Lib.hid (ho7.below hb7x)
            rw [hw7] at hg2
            have HG2 := Lib.hid hg2
            have HB67 := Lib.hid hb67
            have HK7 := Lib.hid hk7
            have HW7 := Lib.hid hw7
            clear hg2 ho7 hb7 hb7x hb67 hk7 hw7
            go_wp2_with fail
            refine HG2.out.mono ?_
            rintro e w8 ⟨v8, rfl, ho8, hb8⟩
            obtain ⟨a8, c8, hv8, -⟩ := ho8.form
            subst hv8
            rw [← HW7.out] at hb8
            rw [← HADN.out, show gk 113 34 = 113 from rfl]
            obtain ⟨w8x, hw8⟩ : ∃ x, x = w8.alloc (.cells #[.int .u8 113, .bool false, .slice a8 adn c8] 28) := ⟨_, rfl⟩
            have hb8x : Below w8.heap.size w8 w8x := by rw [hw8]; exact (Below.refl _ w8).alloc (Nat.le_refl _) _
            have hk8 : w8x.heap[w8.heap.size]? = some (.cells #[.int .u8 113, .bool false, .slice a8 adn c8] 28 (0, 0)) := by rw [hw8]; exact alloc_new _ _ _ rfl
            have hb78 := hb8.trans (hb8x.mono hb8.size)
            have hk7' := (hb78.block _ (lt_of_block HK7.out)).trans HK7.out
            have hsame := same_refl a7 a6 adn c7 c6 AD w8x (OB.rd HADN.out (HO7.out.below hb78)) (OB.rd HADN.out ((HO6.out.below HB67.out).below hb78))
            have gp7 := cell_blk hk7'
            rw [hw8] at hsame gp7
            have HS := Lib.hid hsame
            have HB78 := Lib.hid hb78
            have HK7' := Lib.hid hk7'
            have HK8 := Lib.hid hk8
            have HW8 := Lib.hid hw8
            clear hsame ho8 hb8 hb8x hk8 hw8 hk7' hb78
            go_wp2_with fail
            refine HS.out.mono ?_
            rintro e w9 ⟨rfl, hb9⟩
            rw [← HW8.out] at hb9
            have gp7 := cell_blk ((hb9.block _ (lt_of_block HK7'.out)).trans HK7'.out)
            have gp8 := cell_blk ((hb9.block _ (lt_of_block HK8.out)).trans HK8.out)
            have hb69 := HB67.out.trans ((HB78.out.trans (hb9.mono HB78.out.size)).mono HB67.out.size)
            have hbb9 := below_then hbb6 hb69 hbb6.size
            have hb9s : b + 2 ≤ w9.heap.size := Nat.le_trans hb6s hb69.size
            have HR9 := Lib.hid (HR6.out.below hb69)
            have HO9 := Lib.hid (HO6.out.below hb69)
            clear hb9 hb69
            go_wp2
            rw [HAD.out] at HR9 HO9
            exact ⟨⟨j + 1, by omega, by first | go_num | (simp; done), ⟨_, _, _, rfl⟩, HSM2.out, ⟨_, HR9.out⟩, HO9.out, hbb9, hb9s⟩, by simp [intOf]; omega⟩
          case true =>
            by_cases hv : AC = []
            case pos =>
              subst hv
              have h0 : acn = 0 := by rw [HACN.out]; rfl
              subst h0
              have HAD5 : Hid (AD = t) := by rw [Hid, HADD.out]; unfold nl; simp
              have HX5N : Hid (0 = ([] : List UInt8).length) := Lib.hid rfl
              obtain ⟨w5, hw5⟩ : ∃ x, x = w3 := ⟨_, rfl⟩
              subst hw5
              have HO5 := HO3
              have HR5 := HR3
              have hbb5 := hbb3
              have hb5s := hb3s

              go_wp2_with (at_builtin; refine wpList_app _ rfl _ _ rfl (b + 2) _ _ rfl HO5.out _ _ _ _ rfl (HRT.out.below hbb5) ?c1 ?c2 ?_)
              case c1 => simp; omega
              case c2 => exact hb5s
              intro v6 w6 ho6 hg6 hat6
              have hr6 := avoid_step HR5.out HO5.out ho6 hg6 hat6 (by omega) (by omega)
              have hbb6 : Below w.heap.size w w6 := hbb5.grown hg6 (by omega) (fun r e => by have := OBr.base HO5.out r e; omega)
              have hb6s : b + 2 ≤ w6.heap.size := Nat.le_trans hb5s hg6.size
              rw [← HAD5.out] at ho6
              obtain ⟨a6, c6, hv6, -⟩ := ho6.form
              subst hv6
              obtain ⟨adn, hadn⟩ : ∃ m, m = AD.length := ⟨_, rfl⟩
              rw [← hadn] at ho6 hr6 hal2 ⊢
              have hg1 := get_some (b + 1) b (j + 1) 113 113 _ w6 hr6 (by omega) true AD (MA_at _ _ _ _ rfl)
              have HG1 := Lib.hid hg1
              have HR6 := Lib.hid hr6
              have HO6 := Lib.hid ho6
              have HADN := Lib.hid hadn
              clear hg1 hr6 ho6 hg6 hat6 hadn hcell
              go_wp2_with fail
              refine HG1.out.mono ?_
              rintro e w7 ⟨v7, rfl, ho7, hb7⟩
              obtain ⟨a7, c7, hv7, -⟩ := ho7.form
              subst hv7
              rw [← HADN.out] at ho7 ⊢
              rw [show gk 113 113 = 113 from rfl]
              obtain ⟨w7x, hw7⟩ : ∃ x, x = w7.alloc (.cells #[.int .u8 113, .bool true, .slice a7 adn c7] 28) := ⟨_, rfl⟩
              have hb7x : Below w7.heap.size w7 w7x := by rw [hw7]; exact (Below.refl _ w7).alloc (Nat.le_refl _) _
              have hb67 := hb7.trans (hb7x.mono hb7.size)
              have hk7 : w7x.heap[w7.heap.size]? = some (.cells #[.int .u8 113, .bool true, .slice a7 adn c7] 28 (0, 0)) := by rw [hw7]; exact alloc_new _ _ _ rfl
              have hg2 := get_some (b + 1) b (j + 1) 113 34 _ w7x (HR6.out.below hb67) (by omega) true AD (MA_at _ _ _ _ rfl)
              have HO7 := Lib.hid (ho7.below hb7x)
              rw [hw7] at hg2
              have HG2 := Lib.hid hg2
              have HB67 := Lib.hid hb67
              have HK7 := Lib.hid hk7
              have HW7 := Lib.hid hw7
              clear hg2 ho7 hb7 hb7x hb67 hk7 hw7
              go_wp2_with fail
              refine HG2.out.mono ?_
              rintro e w8 ⟨v8, rfl, ho8, hb8⟩
              obtain ⟨a8, c8, hv8, -⟩ := ho8.form
              subst hv8
              rw [← HW7.out] at hb8
              rw [← HADN.out, show gk 113 34 = 113 from rfl]
              obtain ⟨w8x, hw8⟩ : ∃ x, x = w8.alloc (.cells #[.int .u8 113, .bool true, .slice a8 adn c8] 28) := ⟨_, rfl⟩
              have hb8x : Below w8.heap.size w8 w8x := by rw [hw8]; exact (Below.refl _ w8).alloc (Nat.le_refl _) _
              have hk8 : w8x.heap[w8.heap.size]? = some (.cells #[.int .u8 113, .bool true, .slice a8 adn c8] 28 (0, 0)) := by rw [hw8]; exact alloc_new _ _ _ rfl
              have hb78 := hb8.trans (hb8x.mono hb8.size)
              have hk7' := (hb78.block _ (lt_of_block HK7.out)).trans HK7.out
              have hsame := same_refl a7 a6 adn c7 c6 AD w8x (OB.rd HADN.out (HO7.out.below hb78)) (OB.rd HADN.out ((HO6.out.below HB67.out).below hb78))
              have gp7 := cell_blk hk7'
              rw [hw8] at hsame gp7
              have HS := Lib.hid hsame
              have HB78 := Lib.hid hb78
              have HK7' := Lib.hid hk7'
              have HK8 := Lib.hid hk8
              have HW8 := Lib.hid hw8
              clear hsame ho8 hb8 hb8x hk8 hw8 hk7' hb78
              go_wp2_with fail
              refine HS.out.mono ?_
              rintro e w9 ⟨rfl, hb9⟩
              rw [← HW8.out] at hb9
              have gp7 := cell_blk ((hb9.block _ (lt_of_block HK7'.out)).trans HK7'.out)
              have gp8 := cell_blk ((hb9.block _ (lt_of_block HK8.out)).trans HK8.out)
              have hb69 := HB67.out.trans ((HB78.out.trans (hb9.mono HB78.out.size)).mono HB67.out.size)
              have hbb9 := below_then hbb6 hb69 hbb6.size
              have hb9s : b + 2 ≤ w9.heap.size := Nat.le_trans hb6s hb69.size
              have HR9 := Lib.hid (HR6.out.below hb69)
              have HO9 := Lib.hid (HO6.out.below hb69)
              clear hb9 hb69
              go_wp2
              rw [HAD.out] at HR9 HO9
              exact ⟨⟨j + 1, by omega, by first | go_num | (simp; done), ⟨_, _, _, rfl⟩, HSM2.out, ⟨_, HR9.out⟩, HO9.out, hbb9, hb9s⟩, by simp [intOf]; omega⟩
            case neg =>
              by_cases hl : AC.getLast? = some 10
              case pos =>
                have hpos : 0 < AC.length := by rcases AC with _ | ⟨x, y⟩; exact absurd rfl hv; simp
                have hpos2 : 0 < acn := by rw [HACN.out]; exact hpos
                obtain ⟨g, cg, hvg, hgb, hgl, -⟩ := HO3.out.pos hpos
                injection hvg with hvg hvg2 hvg3
                clear hvg2 hvg3
                subst hvg
                obtain ⟨kk, hkk⟩ : ∃ kk, kk = acn - 1 := ⟨_, rfl⟩
                have hkk2 : (acn : Int) - 1 = (kk : Int) := by omega
                have hkl : kk < AC.length := by have := HACN.out; omega
                have hcl := (show OB w3 (b + 2) (.slice (some ⟨g, 0, none⟩) acn vc) AC from HO3.out).cell kk hkl
                have hgl2 : AC.getLast? = some (AC[kk]'hkl) := by
                  rw [List.getLast?_eq_getElem?]
                  have e : AC.length - 1 = kk := by have := HACN.out; omega
                  rw [e, List.getElem?_eq_getElem hkl]
                obtain ⟨y, hy⟩ : ∃ y, y = (AC[kk]'hkl) := ⟨_, rfl⟩
                rw [← hy] at hcl hgl2
                unfold bv at hcl
                obtain ⟨ny, hny⟩ : ∃ n, n = y.toNat := ⟨_, rfl⟩
                rw [← hny] at hcl
                have k1 : (0 : Int) ≤ (kk : Int) := by omega
                have k2 : (kk : Int) < (acn : Int) := by omega
                have k3 : (0 : Int) < (acn : Int) := by omega

                have hn10 : ny = 10 := by
                  rw [hl] at hgl2
                  injection hgl2 with e
                  rw [hny, ← e]
                  rfl
                subst hn10
                have hcl : w3.cell? ⟨g, kk, none⟩ = some (.int .u8 10) := hcl
                have HAD5 : Hid (AD = AC ++ t) := by rw [Hid, HADD.out]; unfold nl; rw [if_neg (by simp [hl])]
                have HX5N := HACN
                clear hny hy hkk hgl2 hpos
                obtain ⟨w5, hw5⟩ : ∃ x, x = w3 := ⟨_, rfl⟩
                subst hw5
                have HO5 := HO3
                have HR5 := HR3
                have hbb5 := hbb3
                have hb5s := hb3s

                go_wp2_with (at_builtin; refine wpList_app _ rfl _ _ rfl (b + 2) _ _ rfl HO5.out _ _ _ _ rfl (HRT.out.below hbb5) ?c1 ?c2 ?_)
                case c1 => have := HX5N.out; omega
                case c2 => exact hb5s
                intro v6 w6 ho6 hg6 hat6
                have hr6 := avoid_step HR5.out HO5.out ho6 hg6 hat6 (by omega) (by omega)
                have hbb6 : Below w.heap.size w w6 := hbb5.grown hg6 (by omega) (fun r e => by have := OBr.base HO5.out r e; omega)
                have hb6s : b + 2 ≤ w6.heap.size := Nat.le_trans hb5s hg6.size
                rw [← HAD5.out] at ho6
                obtain ⟨a6, c6, hv6, -⟩ := ho6.form
                subst hv6
                obtain ⟨adn, hadn⟩ : ∃ m, m = AD.length := ⟨_, rfl⟩
                rw [← hadn] at ho6 hr6 hal2 ⊢
                have hg1 := get_some (b + 1) b (j + 1) 113 113 _ w6 hr6 (by omega) true AD (MA_at _ _ _ _ rfl)
                have HG1 := Lib.hid hg1
                have HR6 := Lib.hid hr6
                have HO6 := Lib.hid ho6
                have HADN := Lib.hid hadn
                clear hg1 hr6 ho6 hg6 hat6 hadn hcell
                go_wp2_with fail
                refine HG1.out.mono ?_
                rintro e w7 ⟨v7, rfl, ho7, hb7⟩
                obtain ⟨a7, c7, hv7, -⟩ := ho7.form
                subst hv7
                rw [← HADN.out] at ho7 ⊢
                rw [show gk 113 113 = 113 from rfl]
                obtain ⟨w7x, hw7⟩ : ∃ x, x = w7.alloc (.cells #[.int .u8 113, .bool true, .slice a7 adn c7] 28) := ⟨_, rfl⟩
                have hb7x : Below w7.heap.size w7 w7x := by rw [hw7]; exact (Below.refl _ w7).alloc (Nat.le_refl _) _
                have hb67 := hb7.trans (hb7x.mono hb7.size)
                have hk7 : w7x.heap[w7.heap.size]? = some (.cells #[.int .u8 113, .bool true, .slice a7 adn c7] 28 (0, 0)) := by rw [hw7]; exact alloc_new _ _ _ rfl
                have hg2 := get_some (b + 1) b (j + 1) 113 34 _ w7x (HR6.out.below hb67) (by omega) true AD (MA_at _ _ _ _ rfl)
                have HO7 := Lib.hid (ho7.below hb7x)
                rw [hw7] at hg2
                have HG2 := Lib.hid hg2
                have HB67 := Lib.hid hb67
                have HK7 := Lib.hid hk7
                have HW7 := Lib.hid hw7
                clear hg2 ho7 hb7 hb7x hb67 hk7 hw7
                go_wp2_with fail
                refine HG2.out.mono ?_
                rintro e w8 ⟨v8, rfl, ho8, hb8⟩
                obtain ⟨a8, c8, hv8, -⟩ := ho8.form
                subst hv8
                rw [← HW7.out] at hb8
                rw [← HADN.out, show gk 113 34 = 113 from rfl]
                obtain ⟨w8x, hw8⟩ : ∃ x, x = w8.alloc (.cells #[.int .u8 113, .bool true, .slice a8 adn c8] 28) := ⟨_, rfl⟩
                have hb8x : Below w8.heap.size w8 w8x := by rw [hw8]; exact (Below.refl _ w8).alloc (Nat.le_refl _) _
                have hk8 : w8x.heap[w8.heap.size]? = some (.cells #[.int .u8 113, .bool true, .slice a8 adn c8] 28 (0, 0)) := by rw [hw8]; exact alloc_new _ _ _ rfl
                have hb78 := hb8.trans (hb8x.mono hb8.size)
                have hk7' := (hb78.block _ (lt_of_block HK7.out)).trans HK7.out
                have hsame := same_refl a7 a6 adn c7 c6 AD w8x (OB.rd HADN.out (HO7.out.below hb78)) (OB.rd HADN.out ((HO6.out.below HB67.out).below hb78))
                have gp7 := cell_blk hk7'
                rw [hw8] at hsame gp7
                have HS := Lib.hid hsame
                have HB78 := Lib.hid hb78
                have HK7' := Lib.hid hk7'
                have HK8 := Lib.hid hk8
                have HW8 := Lib.hid hw8
                clear hsame ho8 hb8 hb8x hk8 hw8 hk7' hb78
                go_wp2_with fail
                refine HS.out.mono ?_
                rintro e w9 ⟨rfl, hb9⟩
                rw [← HW8.out] at hb9
                have gp7 := cell_blk ((hb9.block _ (lt_of_block HK7'.out)).trans HK7'.out)
                have gp8 := cell_blk ((hb9.block _ (lt_of_block HK8.out)).trans HK8.out)
                have hb69 := HB67.out.trans ((HB78.out.trans (hb9.mono HB78.out.size)).mono HB67.out.size)
                have hbb9 := below_then hbb6 hb69 hbb6.size
                have hb9s : b + 2 ≤ w9.heap.size := Nat.le_trans hb6s hb69.size
                have HR9 := Lib.hid (HR6.out.below hb69)
                have HO9 := Lib.hid (HO6.out.below hb69)
                clear hb9 hb69
                go_wp2
                rw [HAD.out] at HR9 HO9
                exact ⟨⟨j + 1, by omega, by first | go_num | (simp; done), ⟨_, _, _, rfl⟩, HSM2.out, ⟨_, HR9.out⟩, HO9.out, hbb9, hb9s⟩, by simp [intOf]; omega⟩
              case neg =>
                have hpos : 0 < AC.length := by rcases AC with _ | ⟨x, y⟩; exact absurd rfl hv; simp
                have hpos2 : 0 < acn := by rw [HACN.out]; exact hpos
                obtain ⟨g, cg, hvg, hgb, hgl, -⟩ := HO3.out.pos hpos
                injection hvg with hvg hvg2 hvg3
                clear hvg2 hvg3
                subst hvg
                obtain ⟨kk, hkk⟩ : ∃ kk, kk = acn - 1 := ⟨_, rfl⟩
                have hkk2 : (acn : Int) - 1 = (kk : Int) := by omega
                have hkl : kk < AC.length := by have := HACN.out; omega
                have hcl := (show OB w3 (b + 2) (.slice (some ⟨g, 0, none⟩) acn vc) AC from HO3.out).cell kk hkl
                have hgl2 : AC.getLast? = some (AC[kk]'hkl) := by
                  rw [List.getLast?_eq_getElem?]
                  have e : AC.length - 1 = kk := by have := HACN.out; omega
                  rw [e, List.getElem?_eq_getElem hkl]
                obtain ⟨y, hy⟩ : ∃ y, y = (AC[kk]'hkl) := ⟨_, rfl⟩
                rw [← hy] at hcl hgl2
                unfold bv at hcl
                obtain ⟨ny, hny⟩ : ∃ n, n = y.toNat := ⟨_, rfl⟩
                rw [← hny] at hcl
                have k1 : (0 : Int) ≤ (kk : Int) := by omega
                have k2 : (kk : Int) < (acn : Int) := by omega
                have k3 : (0 : Int) < (acn : Int) := by omega

                have hn10 : ¬ ny = 10 := by
                  intro e
                  apply hl
                  rw [hgl2]
                  congr 1
                  exact UInt8.toNat_inj.1 (by show y.toNat = 10; omega)
                have hy10 : (((ny : Nat) : Int) != 10) = true := by simp; omega
                have hy11 : ¬ ((ny : Nat) : Int) = 10 := by omega
                have HAD6 : Hid (AD = (AC ++ [10]) ++ t) := by rw [Hid, HADD.out]; unfold nl; rw [if_pos ⟨rfl, hv, hl⟩]
                clear hny hy hkk hgl2 hpos
                have hba : Below w3.heap.size w3 (w3.alloc (.cells #[.int .u8 10] 5)) := (Below.refl _ w3).alloc (Nat.le_refl _) _
                have hbba := below_then hbb3 hba hbb3.size
                go_wp2_with (at_builtin; refine wpList_app _ rfl _ _ rfl (b + 2) _ _ rfl (HO3.out.alloc _) _ _ _ _ rfl (Rd_lit w3 5 [10] (fr := (0, 0)) (by simp [maxLen])) ?d1 ?d2 ?_)
                case d1 => have := HACN.out; omega
                case d2 => have := hba.size; omega
                intro v5 w5 ho5 hg5 hat5
                have hr5 := avoid_step (HR3.out.below hba) (HO3.out.alloc _) ho5 hg5 (by rw [World.size_alloc]; exact hat5) (by omega) (by omega)
                have hbb5 : Below w.heap.size w w5 := hbba.grown hg5 (by have := hba.size; omega) (fun r e => by have := OBr.base (HO3.out.alloc (.cells #[.int .u8 10] 5)) r e; omega)
                have hb5s : b + 2 ≤ w5.heap.size := Nat.le_trans (Nat.le_trans hb3s hba.size) hg5.size
                obtain ⟨X5, hX5⟩ : ∃ X, X = AC ++ [10] := ⟨_, rfl⟩
                rw [← hX5] at ho5 HAD6
                have hX5l : X5.length = acn + 1 := by rw [hX5, HACN.out]; simp
                obtain ⟨a5, c5, hv5, -⟩ := ho5.form
                subst hv5
                obtain ⟨x5n, hx5n⟩ : ∃ m, m = X5.length := ⟨_, rfl⟩
                rw [← hx5n] at ho5 hr5 hX5l ⊢
                have hx5b : x5n ≤ 5000 := by omega
                have HAD5 := HAD6
                have HX5N := Lib.hid hx5n
                have HO5 := Lib.hid ho5
                have HR5 := Lib.hid hr5
                have hcell := (hbb5.cell (lt_of_cell HCELL.out)).trans HCELL.out
                clear ho5 hr5 hg5 hat5 hX5 hx5n hcl hba hbba hX5l

                go_wp2_with (at_builtin; refine wpList_app _ rfl _ _ rfl (b + 2) _ _ rfl HO5.out _ _ _ _ rfl (HRT.out.below hbb5) ?c1 ?c2 ?_)
                case c1 => have := HX5N.out; omega
                case c2 => exact hb5s
                intro v6 w6 ho6 hg6 hat6
                have hr6 := avoid_step HR5.out HO5.out ho6 hg6 hat6 (by omega) (by omega)
                have hbb6 : Below w.heap.size w w6 := hbb5.grown hg6 (by omega) (fun r e => by have := OBr.base HO5.out r e; omega)
                have hb6s : b + 2 ≤ w6.heap.size := Nat.le_trans hb5s hg6.size
                rw [← HAD5.out] at ho6
                obtain ⟨a6, c6, hv6, -⟩ := ho6.form
                subst hv6
                obtain ⟨adn, hadn⟩ : ∃ m, m = AD.length := ⟨_, rfl⟩
                rw [← hadn] at ho6 hr6 hal2 ⊢
                have hg1 := get_some (b + 1) b (j + 1) 113 113 _ w6 hr6 (by omega) true AD (MA_at _ _ _ _ rfl)
                have HG1 := Lib.hid hg1
                have HR6 := Lib.hid hr6
                have HO6 := Lib.hid ho6
                have HADN := Lib.hid hadn
                clear hg1 hr6 ho6 hg6 hat6 hadn hcell
                go_wp2_with fail
                refine HG1.out.mono ?_
                rintro e w7 ⟨v7, rfl, ho7, hb7⟩
                obtain ⟨a7, c7, hv7, -⟩ := ho7.form
                subst hv7
                rw [← HADN.out] at ho7 ⊢
                rw [show gk 113 113 = 113 from rfl]
                obtain ⟨w7x, hw7⟩ : ∃ x, x = w7.alloc (.cells #[.int .u8 113, .bool true, .slice a7 adn c7] 28) := ⟨_, rfl⟩
                have hb7x : Below w7.heap.size w7 w7x := by rw [hw7]; exact (Below.refl _ w7).alloc (Nat.le_refl _) _
                have hb67 := hb7.trans (hb7x.mono hb7.size)
                have hk7 : w7x.heap[w7.heap.size]? = some (.cells #[.int .u8 113, .bool true, .slice a7 adn c7] 28 (0, 0)) := by rw [hw7]; exact alloc_new _ _ _ rfl
                have hg2 := get_some (b + 1) b (j + 1) 113 34 _ w7x (HR6.out.below hb67) (by omega) true AD (MA_at _ _ _ _ rfl)
                have HO7 := Lib.hid (ho7.below hb7x)
                rw [hw7] at hg2
                have HG2 := Lib.hid hg2
                have HB67 := Lib.hid hb67
                have HK7 := Lib.hid hk7
                have HW7 := Lib.hid hw7
                clear hg2 ho7 hb7 hb7x hb67 hk7 hw7
                go_wp2_with fail
                refine HG2.out.mono ?_
                rintro e w8 ⟨v8, rfl, ho8, hb8⟩
                obtain ⟨a8, c8, hv8, -⟩ := ho8.form
                subst hv8
                rw [← HW7.out] at hb8
                rw [← HADN.out, show gk 113 34 = 113 from rfl]
                obtain ⟨w8x, hw8⟩ : ∃ x, x = w8.alloc (.cells #[.int .u8 113, .bool true, .slice a8 adn c8] 28) := ⟨_, rfl⟩
                have hb8x : Below w8.heap.size w8 w8x := by rw [hw8]; exact (Below.refl _ w8).alloc (Nat.le_refl _) _
                have hk8 : w8x.heap[w8.heap.size]? = some (.cells #[.int .u8 113, .bool true, .slice a8 adn c8] 28 (0, 0)) := by rw [hw8]; exact alloc_new _ _ _ rfl
                have hb78 := hb8.trans (hb8x.mono hb8.size)
                have hk7' := (hb78.block _ (lt_of_block HK7.out)).trans HK7.out
                have hsame := same_refl a7 a6 adn c7 c6 AD w8x (OB.rd HADN.out (HO7.out.below hb78)) (OB.rd HADN.out ((HO6.out.below HB67.out).below hb78))
                have gp7 := cell_blk hk7'
                rw [hw8] at hsame gp7
                have HS := Lib.hid hsame
                have HB78 := Lib.hid hb78
                have HK7' := Lib.hid hk7'
                have HK8 := Lib.hid hk8
                have HW8 := Lib.hid hw8
                clear hsame ho8 hb8 hb8x hk8 hw8 hk7' hb78
                go_wp2_with fail
                refine HS.out.mono ?_
                rintro e w9 ⟨rfl, hb9⟩
                rw [← HW8.out] at hb9
                have gp7 := cell_blk ((hb9.block _ (lt_of_block HK7'.out)).trans HK7'.out)
                have gp8 := cell_blk ((hb9.block _ (lt_of_block HK8.out)).trans HK8.out)
                have hb69 := HB67.out.trans ((HB78.out.trans (hb9.mono HB78.out.size)).mono HB67.out.size)
                have hbb9 := below_then hbb6 hb69 hbb6.size
                have hb9s : b + 2 ≤ w9.heap.size := Nat.le_trans hb6s hb69.size
                have HR9 := Lib.hid (HR6.out.below hb69)
                have HO9 := Lib.hid (HO6.out.below hb69)
                clear hb9 hb69
                go_wp2
                rw [HAD.out] at HR9 HO9
                exact ⟨⟨j + 1, by omega, by first | go_num | (simp; done), ⟨_, _, _, rfl⟩, HSM2.out, ⟨_, HR9.out⟩, HO9.out, hbb9, hb9s⟩, by simp [intOf]; omega⟩
      · obtain rfl : j = n := by omega
        have hall := all_any 1 sorts1 (by omega) (b + 1) b j nm _ wr hreg (by omega) (MA_own _ _ _) (fun ks hk => by rw [MA_keys _ _ _ _ hk]; omega)
        have HALL := Lib.hid hall
        obtain ⟨mn, hmn⟩ : ∃ mn, mn = min j 1 := ⟨_, rfl⟩
        have HMN := Lib.hid hmn
        clear hall hreg hob hsm
        go_wp2_with fail
        refine HALL.out.mono ?_
        rintro e w3 ⟨v3, ts, rfl, hks, -, hor, hb3⟩
        obtain ⟨a3, c3, hv3⟩ := hor.form
        have hl3 : (allL (MA ln (addTo ln L j) j) ts).length = mn := by
          rw [HMN.out, ← MA_keys _ _ _ _ hks]
          simp [allL]
        rw [hl3] at hv3
        subst hv3
        have hbb := below_then hbr hb3 hbr.size
        clear hks hor hl3 hb3
        rcases Nat.eq_zero_or_pos j with h0 | h0
        · have HM2 : mn = 0 := by rw [HMN.out]; omega
          subst h0 HM2
          clear hmn
          go_wp2
          go_ret
          exact ⟨rfl, hbb⟩
        · have HM2 : mn = 1 := by rw [HMN.out]; omega
          subst HM2
          have d1 : (1 : Int) < (j : Int) ∨ (j : Int) = 1 := by omega
          clear hmn
          rcases d1 with d1 | d1
          · go_wp2
            go_ret
            exact ⟨rfl, hbb⟩
          · go_wp2
            go_ret
            exact ⟨rfl, hbb⟩
end Go.Proofs.Ytleicgigkbfnbaa
