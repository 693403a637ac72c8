/- Law 9: PoolOrder. -/
import Derived.Test.YtocepcibcapfbaaJ53
import Derived.Test.YtocepcibcapfbaaJ23
namespace Go.Proofs.Ytocepcibcapfbaa
set_option linter.unusedVariables false
set_option linter.unusedSimpArgs false
open Go.RowKit

theorem ints9 : SlT 35 3 1 8 := ⟨Try.underlying35, ⟨.int .i64 0, by kernel_rfl, rfl⟩, by omega⟩
theorem OV_one (w : World) (x : Int) : OV (w.alloc (.cells #[.int .i64 x] 3 (0, 0))) w.heap.size 3 1 (.slice (some ⟨w.heap.size, 0, none⟩) 1 1) 1 (ivs [x]) :=
  ⟨rfl, .inr ⟨_, 1, #[.int .i64 x], rfl, Nat.le_refl _, alloc_new _ _ _ rfl, Nat.le_refl _, by decide, rfl, rfl⟩⟩
variable {B o c : Nat} {w0 w : World} {p d np N : Nat} {x : P.Po} {a : Option Addr} {n : Nat} {l : List Int}
/-- A pool in a law, and a row of numbers that is none of its own. -/
def OuP (B c : Nat) (w0 w : World) (p d np N : Nat) (x : P.Po) (a : Option Addr) (n : Nat) (l : List Int) : Prop :=
  Below B w0 w ∧ RI w a n l ∧ ∃ o, PoIs B o c w p d np N x ∧ ∀ q, a = some q → tagA w q.block = some (some 3) ∧ q.block ≠ o
theorem OuP.pool (h : OuP B c w0 w p d np N x a n l) : PoL B c w0 w p d np N x := by
  obtain ⟨h1, h2, o, h3, h4⟩ := h
  exact ⟨h1, o, h3⟩
theorem OuP.of (h : PoL B c w0 w p d np N x) : OuP B c w0 w p d np N x none 0 [] := by
  obtain ⟨h1, o, h3⟩ := h
  exact ⟨h1, RV.nil _ _ _, o, h3, fun q hq => by cases hq⟩
theorem OuP.step {w' : World} {x' : P.Po} {c' : Nat} (hP : PoIs B o c w p d np N x) (hb : Below B w0 w) (hr : RI w a n l) (ht : ∀ q, a = some q → tagA w q.block = some (some 3) ∧ q.block ≠ o) (hV : PoV B o c' w p d np N x' w') : OuP B c' w0 w' p d np N x' a n l := by
  obtain ⟨o', ho', hP', hT⟩ := hV
  refine ⟨hb.trans (hT.base hP.hi hP.lo), RV.tyx hr hT (fun q hq => ⟨(ht q hq).2, _, (ht q hq).1, by unfold poT devT; decide⟩), o', hP', fun q hq => ?_⟩
  have h1 := ht q hq
  have h2 := tagA_lt h1.1
  refine ⟨(hT.tag _ h2).trans h1.1, ?_⟩
  rcases ho' with rfl | h3
  · exact h1.2
  · omega
theorem OuP.below {w' : World} (h : OuP B c w0 w p d np N x a n l) (hb : Below w.heap.size w w') : OuP B c w0 w' p d np N x a n l := by
  obtain ⟨h1, h2, o, h3, h4⟩ := h
  exact ⟨h1.trans (hb.mono h3.hi), h2.below hb, o, h3.below hb, fun q hq => ⟨(tagA_eq (hb.block _ (tagA_lt (h4 q hq).1))).trans (h4 q hq).1, (h4 q hq).2⟩⟩
/-- Another row, made since. -/
theorem OuP.new {w' : World} {v : Value} {k : List Nat} (h : OuP B c w0 w p d np N x a n l) (hb : Below w.heap.size w w') (hv : OV w' w.heap.size 3 1 v k.length (ivs (k.map Int.ofNat))) : ∃ a' cp, v = .slice a' k.length cp ∧ OuP B c w0 w' p d np N x a' k.length (k.map Int.ofNat) := by
  obtain ⟨h1, h2, o, h3, h4⟩ := h
  obtain ⟨a', cp, e, hr, -, ha, -⟩ := hv.form
  refine ⟨a', cp, e, h1.trans (hb.mono h3.hi), hr, o, h3.below hb, fun q hq => ?_⟩
  have h5 := ha q hq
  have h6 := hv.tag q.block h5.2.2
  have h7 := h3.lt.2
  exact ⟨h6.1, by omega⟩
theorem opin (h : OuP B c w0 w p d np N x a n l) (i : Int) (hn : inI i) (hop : x.d.ops < 999000) (hc : c < 1000000) (hE : x.pinE N np i = 0) : Calls Try.prog 15 #[.pointer (some ⟨p, 0, none⟩), .int .i64 i] w fun e w' =>
    ∃ am m cp, e = .returned (.tuple #[.slice am m cp, .int .i64 0]) ∧ OuP B (c + 1) w0 w' p d np N (x.pinP N np i) a n l := by
  obtain ⟨h1, h2, o, h3, h4⟩ := h
  refine (ppin_any h3 i hn hop hc).mono ?_
  rintro e w' ⟨hV, v, rfl, h5, -⟩
  obtain ⟨am, cp, e, -⟩ := (h5 hE).form
  subst e
  rw [hE]
  exact ⟨am, _, cp, rfl, OuP.step h3 h1 h2 h4 hV⟩
theorem ounpin (h : OuP B c w0 w p d np N x a n l) (i : Int) (hn : inI i) (hE : x.unE i = 0) : Calls Try.prog 14 #[.pointer (some ⟨p, 0, none⟩), .int .i64 i] w fun e w' =>
    e = .returned (.int .i64 0) ∧ OuP B c w0 w' p d np N (x.unP i) a n l := by
  obtain ⟨h1, h2, o, h3, h4⟩ := h
  rw [← hE]
  refine (punpin_any h3 i hn).mono ?_
  rintro e w' ⟨rfl, hV⟩
  exact ⟨rfl, OuP.step h3 h1 h2 h4 hV⟩
/-- The next list, behind k of the old one. -/
def nxN (m : Nat) (u : List Nat) (k : Nat) : List Nat := m :: (u.take k).filter fun j => j != m
theorem nxN_all (m : Nat) (u : List Nat) (k : Nat) (h : (nxN m u k).length ≤ 8) (hk : u.length ≤ k ∨ (nxN m u k).length = 8) : nxN m u k = P.usedN m u := by
  unfold P.usedN
  unfold nxN at *
  rcases hk with hk | hk
  · rw [List.take_of_length_le hk] at h ⊢
    rw [List.take_of_length_le h]
  · conv => rhs; rw [← List.take_append_drop k u, List.filter_append, ← List.cons_append, ← hk]
    rw [List.take_left]
theorem nxN_succ (m : Nat) (u : List Nat) (k : Nat) (h : k < u.length) : nxN m u (k + 1) = if u[k] = m then nxN m u k else nxN m u k ++ [u[k]] := by
  unfold nxN
  rw [List.take_succ_eq_append_getElem h, List.filter_append]
  by_cases e : u[k] = m
  · rw [if_pos e]
    simp [e]
  · rw [if_neg e]
    simp [e]
theorem still_skip {P : Program} {ops : Array Oper} {w : World} {Q : Act → Prop} {a : Act} {o : Oper} {rest : List Oper} (h : Region.wanted o (yielded ops a.tmps) = false) (k : wpStill P ops w Q rest (a.put o.dst undef)) : wpStill P ops w Q (o :: rest) a :=
  wpStill_step fun K hK => by
    rw [if_neg (by rw [h]; decide)]
    exact hK _ k
attribute [local irreducible] wpStill
theorem in_succ (r : List Nat) (j q : Nat) (h : j < r.length) : decide (q ∈ r.take (j + 1)) = (decide (q ∈ r.take j) || decide (Int.ofNat r[j] = Int.ofNat q)) := by
  have h1 : q ∈ r.take (j + 1) ↔ q ∈ r.take j ∨ Int.ofNat r[j] = Int.ofNat q := by
    rw [List.take_succ_eq_append_getElem h, List.mem_append, List.mem_singleton]
    exact ⟨fun h => h.imp id (fun e => by rw [e]), fun h => h.imp id (fun e => (Int.ofNat.inj e).symm)⟩
  rw [decide_eq_decide.2 h1, Bool.decide_or]
def OuR (w0 : World) (p d i : Nat) (v : Value) (wr : World) : Prop := ∃ (x : P.Po) (u : List Nat) (a : Option Addr) (cp : Nat), v = .slice a u.length cp ∧ OuP w0.heap.size i w0 wr p d 32 8 x a u.length (u.map Int.ofNat) ∧ P.Ou 32 x u ∧ u.length ≤ 8 ∧ x.d.ops ≤ 2 * i
theorem ou_len {x : P.Po} {u : List Nat} (h : P.Ou 32 x u) : u.length ≤ 8 := by
  have h1 := congrArg List.length h.pgs
  have h2 := h.ok.2.2.1
  simp at h1
  omega
set_option maxRecDepth 100000 in
set_option maxHeartbeats 6400000 in
theorem poolOrder_walk (a : Option Addr) (n cap : Nat) (l : List UInt8) (w : World) (hl : Rd w a n l) (hcap : n ≤ cap) : Calls Try.prog 4 #[.slice a n cap] w fun e w' => e = .returned (.bool true) ∧ Below w.heap.size w w' := by
  have HA := Lib.hid (awake9_any w)
  have HL := Lib.hid hl
  have HLN := Lib.hid hl.len
  clear hl
  by_cases hin : n ≤ 300
  rotate_left
  · have h1 : (300 : Int) < (n : Int) := by omega
    clear hin
    go_enter Try.func4, Try.ntmps4
    go_wp2_with (go_at_call 7; refine HA.out.mono ?_; rintro e w1 ⟨rfl, hb1⟩; have HB1 := Lib.hid hb1; clear hb1)
    go_ret
    exact ⟨rfl, HB1.out⟩
  have g1 : (n : Int) ≤ 300 := by omega
  go_enter Try.func4, Try.ntmps4
  go_wp2_with fail
  refine HA.out.mono ?_
  rintro e w1 ⟨rfl, hb1⟩
  have H1 := Lib.hid (lnew w w1 32 hb1 (by omega) (by omega))
  clear hb1
  go_wp2_with fail
  refine H1.out.mono ?_
  rintro e w2 ⟨d, rfl, hD, hb2⟩
  have H2 := Lib.hid (lpool w w2 d 32 8 hb2 hD (by omega) (by omega) (by omega))
  clear hD hb2
  go_wp2_with fail
  refine H2.out.mono ?_
  rintro e w3 ⟨p, rfl, hP⟩
  have HST := Lib.hid (show OuR w p d 0 (.slice none 0 0) w3 from ⟨_, [], none, 0, rfl, OuP.of hP, ⟨⟨List.nodup_nil, fun f hf => by simp at hf, Nat.zero_le _, dv0_img 32⟩, dv0_well 32, rfl, fun f hf => by simp at hf⟩, Nat.zero_le _, Nat.le_refl _⟩)
  clear hP
  go_wp2
  go_loopw [7, 8] (fun s7 s8 wr => ∃ i : Nat, i ≤ n ∧ s8 = .int .i64 i ∧ OuR w p d i s7 wr) (fun _ s8 _ => n - (ivOf s8).toNat)
  case atStart => exact ⟨0, by omega, rfl, HST.out⟩
  case round =>
    obtain ⟨i, hi, rfl, x, u, au, cu, rfl, hP, hO, hu8, ho⟩ := hrel
    by_cases hlt : i < n
    · have i0 : (0 : Int) ≤ (i : Int) := by omega
      have i1 : (i : Int) < (n : Int) := by omega
      obtain ⟨q, hq, hc⟩ := (HL.out.below hP.1).at i (by rw [HLN.out]; exact hlt)
      subst hq
      generalize l[i]'(by rw [HLN.out]; exact hlt) = v at hc
      replace hc : wr.cell? (q.add i) = some (.int .u8 (v.toNat : Int)) := hc
      have v1 := v.toNat_lt
      obtain ⟨m, hm⟩ : ∃ m : Nat, m = v.toNat % 32 := ⟨_, rfl⟩
      have hm32 : m < 32 := by omega
      have hrem : ((v.toNat : Int)).tmod 32 = (m : Int) := by rw [Int.tmod_eq_emod_of_nonneg (by omega)]; omega
      have hv0 : (0 : Int) ≤ (v.toNat : Int) := by omega
      have hv1 : (v.toNat : Int) < 256 := by omega
      have hst := hO.step m hm32
      have o1 := P.pin_ops 8 32 x (m : Int)
      have o2 := P.un_d (x.pinP 8 32 (m : Int)) (m : Int)
      have HPIN := Lib.hid (opin hP (m : Int) (by unfold inI; omega) (by omega) (by omega) hst.1)
      have HX := Lib.hid (And.intro hst.2.1 (And.intro hst.2.2 (show ((x.pinP 8 32 (m : Int)).unP (m : Int)).d.ops ≤ 2 * (i + 1) by rw [o2]; omega)))
      clear hP hO ho hst o1 o2 hm
      go_wp2_with fail
      refine HPIN.out.mono ?_
      rintro e w4 ⟨am, mm, cm, rfl, hQ⟩
      have HUN := Lib.hid (ounpin hQ (m : Int) (by unfold inI; omega) HX.out.1)
      clear hQ
      go_wp2_with fail
      refine HUN.out.mono ?_
      rintro e w5 ⟨rfl, hQ5⟩
      obtain ⟨y, hy⟩ : ∃ y, y = (x.pinP 8 32 (m : Int)).unP (m : Int) := ⟨_, rfl⟩
      have HY := Lib.hid HX.out.2
      rw [← hy] at hQ5 HY
      have HQ := Lib.hid hQ5
      clear hQ5 hy HX
      go_wp2
      go_loopw [12, 13] (fun s12 s13 wi => ∃ k : Nat, k ≤ u.length ∧ s13 = .int .i64 k ∧ OV wi w5.heap.size 3 1 s12 (nxN m u k).length (ivs ((nxN m u k).map Int.ofNat)) ∧ (nxN m u k).length ≤ 8 ∧ Below w5.heap.size w5 wi) (fun _ s13 _ => u.length - (ivOf s13).toNat)
      case atStart => exact ⟨0, Nat.zero_le _, rfl, OV_one w5 m, by simp [nxN], (Below.refl _ w5).alloc (Nat.le_refl _) _⟩
      case round =>
        obtain ⟨k, hk, rfl, hv, h8, hbi⟩ := hrel
        have k0 : (0 : Int) ≤ (k : Int) := by omega
        by_cases hk1 : k < u.length
        · have k1 : (k : Int) < (u.length : Int) := by omega
          by_cases hk2 : (nxN m u k).length < 8
          · have hsc := nxN_succ m u k hk1
            obtain ⟨an, cn, rfl, -⟩ := hv.form
            obtain ⟨qu, rfl, hcu⟩ := (HQ.out.2.1.below hbi).at k (by rw [List.length_map]; exact hk1)
            rw [List.getElem_map] at hcu
            have k2 : ((nxN m u k).length : Int) < 8 := by omega
            by_cases he : u[k] = m
            · rw [if_pos he] at hsc
              have e2 : Int.ofNat u[k] = (m : Int) := by rw [he]; rfl
              rw [e2] at hcu
              have HV := Lib.hid (And.intro hv (And.intro h8 hsc))
              clear hv h8 hsc he e2
              go_wp2
              exact ⟨⟨k + 1, by omega, by go_num, by rw [HV.out.2.2]; exact HV.out.1, by rw [HV.out.2.2]; exact HV.out.2.1, hbi⟩, by simp [ivOf]; omega⟩
            · rw [if_neg he] at hsc
              obtain ⟨z, hz⟩ : ∃ z, z = Int.ofNat u[k] := ⟨_, rfl⟩
              rw [← hz] at hcu
              have e2 : z ≠ (m : Int) := by rw [hz]; exact fun e => he (Int.ofNat.inj e)
              have hz2 : ivs ((nxN m u (k + 1)).map Int.ofNat) = ivs ((nxN m u k).map Int.ofNat) ++ [.int .i64 z] := by
                rw [hsc, hz]
                simp [ivs, iv]
              have hz3 : (nxN m u (k + 1)).length = (nxN m u k).length + 1 := by rw [hsc]; simp
              have hba : Below wr.heap.size wr (wr.alloc (.cells #[.int .i64 z] 3)) := (Below.refl _ wr).alloc (Nat.le_refl _) _
              have hrv : RV (wr.alloc (.cells #[.int .i64 z] 3)) (some ⟨wr.heap.size, 0, none⟩) 1 1 [.int .i64 z] := RV_lit wr 3 1 1 [.int .i64 z] rfl (by unfold maxLen; omega)
              have hst : w5.heap.size ≤ (wr.alloc (.cells #[.int .i64 z] 3)).heap.size := by have := hbi.size; simp; omega
              have HRV := Lib.hid hrv
              have HBA := Lib.hid hba
              have HV := Lib.hid hv
              have HZ := Lib.hid (And.intro hz2 hz3)
              have HBI := Lib.hid hbi
              clear hrv hba hv hsc he hz hz2 hz3 h8
              go_wp2_with (at_builtin; refine wpList_appV ints9 _ rfl _ _ rfl w5.heap.size _ _ _ rfl (HV.out.below HBA.out) _ _ _ _ rfl HRV.out (fun u hu => by rw [List.mem_singleton] at hu; subst hu; rfl) ?c1 ?c2 hst ?_)
              case c1 => omega
              case c2 => omega
              intro v1 w6 hown1 hg1 hat1
              have hb1 := (below_then HBI.out HBA.out HBI.out.size).grown hg1 hst (fun r e => (OV.tag HV.out r e).2)
              rw [← HZ.out.1, ← HZ.out.2] at hown1
              have HO1 := Lib.hid (And.intro hown1 (And.intro (show (nxN m u (k + 1)).length ≤ 8 by rw [HZ.out.2]; omega) hb1))
              clear hown1 hg1 hat1 hb1
              go_wp2
              exact ⟨⟨k + 1, by omega, by go_num, HO1.out⟩, by simp [ivOf]; omega⟩
          · have heq := nxN_all m u k h8 (.inr (by omega))
            obtain ⟨u6, hu6⟩ : ∃ u6, u6 = P.usedN m u := ⟨_, rfl⟩
            rw [heq, ← hu6] at hv
            rw [← hu6] at HY
            obtain ⟨a6, c6, rfl, hQ6⟩ := HQ.out.new hbi hv
            have h68 := ou_len HY.out.1
            have k2 : ¬ (u6.length : Int) < 8 := by rw [heq, ← hu6] at hk2; omega
            have HRS := Lib.hid (lresident hQ6.pool)
            rw [HY.out.1.len] at HRS
            have HQ6 := Lib.hid hQ6
            clear hQ6 hv heq hu6
            go_wp2_with fail
            refine HRS.out.mono ?_
            rintro e w7 ⟨ar, cr, rfl, hrr, -, hb7⟩
            have HR7 := Lib.hid hrr
            have HQ7 := Lib.hid (HQ6.out.below hb7)
            have HLN7 := Lib.hid HY.out.1.len
            obtain ⟨rs, hrs⟩ : ∃ rs, rs = y.res 32 := ⟨_, rfl⟩
            have hmem : ∀ q, q ∈ u6 → q ∈ rs := fun q hq => by rw [hrs]; exact (HY.out.1.res q).2 hq
            rw [← hrs] at HR7 HLN7
            have HMEM := Lib.hid hmem
            clear hrr hb7 hmem hrs
            go_wp2
            go_loopw [15] (fun s15 wk => ∃ k : Nat, k ≤ u6.length ∧ s15 = .int .i64 k ∧ Below w7.heap.size w7 wk) (fun s15 _ => u6.length - (ivOf s15).toNat)
            case atStart => exact ⟨0, Nat.zero_le _, rfl, Below.refl _ _⟩
            case round =>
              obtain ⟨k6, hk6, rfl, hbk⟩ := hrel
              by_cases hlk : k6 < u6.length
              · have j0 : (0 : Int) ≤ (k6 : Int) := by omega
                have j1 : (k6 : Int) < (u6.length : Int) := by omega
                go_wp2
                go_loopw [16, 17] (fun s16 s17 wj => ∃ j : Nat, j ≤ u6.length ∧ s17 = .int .i64 j ∧ s16 = .bool (decide (u6[k6] ∈ rs.take j)) ∧ Below w7.heap.size w7 wj) (fun _ s17 _ => u6.length - (ivOf s17).toNat)
                case atStart => exact ⟨0, Nat.zero_le _, rfl, by simp, hbk⟩
                case round =>
                  obtain ⟨j, hj, rfl, rfl, hbj⟩ := hrel
                  by_cases hlj : j < u6.length
                  · have m0 : (0 : Int) ≤ (j : Int) := by omega
                    have m1 : (j : Int) < (u6.length : Int) := by omega
                    have hjr : j < rs.length := by rw [HLN7.out]; exact hlj
                    have hsc := in_succ rs j u6[k6] hjr
                    by_cases hmm : u6[k6] ∈ rs.take j
                    · have hd : decide (u6[k6] ∈ rs.take j) = true := decide_eq_true hmm
                      rw [hd] at hsc ⊢
                      rw [Bool.true_or] at hsc
                      have HSC := Lib.hid hsc
                      clear hsc hd hmm
                      go_wp2
                      refine wp_region_still_tail 12 (by kernel_rfl) (by kernel_rfl) ?_
                      simp only [List.take_succ_cons, List.take_zero, List.drop_succ_cons, List.drop_zero]
                      refine wpStill_val rfl (.bool true) (by kernel_rfl) ?_
                      refine wpStill_val rfl (.bool true) (by kernel_rfl) ?_
                      iterate 9 (refine still_skip (by kernel_rfl) ?_)
                      refine wpStill_val rfl (.bool true) (by kernel_rfl) ?_
                      refine wpStill_nil ?_
                      simp only [Act.put, List.setIfInBounds_toArray, List.set_cons_zero, List.set_cons_succ]
                      go_wp2
                      exact ⟨⟨j + 1, by omega, by go_num, by rw [HSC.out], hbj.drew⟩, by simp [ivOf]; omega⟩
                    · have hd : decide (u6[k6] ∈ rs.take j) = false := decide_eq_false hmm
                      rw [hd] at hsc ⊢
                      rw [Bool.false_or] at hsc
                      obtain ⟨qr, rfl, hcr⟩ := (HR7.out.below hbj).at j (by rw [List.length_map]; exact hjr)
                      obtain ⟨qu, rfl, hcu⟩ := (HQ7.out.2.1.below hbj).at k6 (by rw [List.length_map]; exact hlk)
                      rw [List.getElem_map] at hcr hcu
                      obtain ⟨zr, hzr⟩ : ∃ z, z = Int.ofNat rs[j] := ⟨_, rfl⟩
                      obtain ⟨zu, hzu⟩ : ∃ z, z = Int.ofNat u6[k6] := ⟨_, rfl⟩
                      rw [← hzr, ← hzu] at hsc
                      rw [← hzr] at hcr
                      rw [← hzu] at hcu
                      replace hcr : wr.drew.cell? (qr.add j) = some (.int .i64 zr) := hcr
                      replace hcu : wr.drew.cell? (qu.add k6) = some (.int .i64 zu) := hcu
                      have HSC := Lib.hid hsc
                      clear hsc hd hmm hzr hzu
                      go_wp2
                      go_still_tail 12, (by kernel_rfl)
                      change wpList _ _ _ _ _ wr.drew
                      go_wp2
                      exact ⟨⟨j + 1, by omega, by go_num, by rw [HSC.out]; congr 1, hbj.drew⟩, by simp [ivOf]; omega⟩
                  · obtain rfl : j = u6.length := by omega
                    have hd : decide (u6[k6] ∈ rs.take u6.length) = true := decide_eq_true (by rw [← HLN7.out, List.take_length]; exact HMEM.out _ (List.getElem_mem _))
                    rw [hd]
                    clear hd
                    go_wp2
                    exact ⟨⟨k6 + 1, by omega, by go_num, hbj⟩, by simp [ivOf]; omega⟩
              · obtain rfl : k6 = u6.length := by omega
                have HN := Lib.hid (show OuR w p d (i + 1) (.slice a6 u6.length c6) wr from ⟨y, u6, a6, c6, rfl, HQ7.out.below hbk, HY.out.1, ou_len HY.out.1, HY.out.2⟩)
                go_wp2
                exact ⟨⟨i + 1, by omega, by go_num, HN.out⟩, by simp [ivOf]; omega⟩
        · have heq := nxN_all m u k h8 (.inl (by omega))
          obtain ⟨u6, hu6⟩ : ∃ u6, u6 = P.usedN m u := ⟨_, rfl⟩
          rw [heq, ← hu6] at hv
          rw [← hu6] at HY
          obtain ⟨a6, c6, rfl, hQ6⟩ := HQ.out.new hbi hv
          have h68 := ou_len HY.out.1
          have k2 : ¬ (k : Int) < (u.length : Int) := by omega
          have HRS := Lib.hid (lresident hQ6.pool)
          rw [HY.out.1.len] at HRS
          have HQ6 := Lib.hid hQ6
          clear hQ6 hv heq hu6
          go_wp2_with fail
          refine HRS.out.mono ?_
          rintro e w7 ⟨ar, cr, rfl, hrr, -, hb7⟩
          have HR7 := Lib.hid hrr
          have HQ7 := Lib.hid (HQ6.out.below hb7)
          have HLN7 := Lib.hid HY.out.1.len
          obtain ⟨rs, hrs⟩ : ∃ rs, rs = y.res 32 := ⟨_, rfl⟩
          have hmem : ∀ q, q ∈ u6 → q ∈ rs := fun q hq => by rw [hrs]; exact (HY.out.1.res q).2 hq
          rw [← hrs] at HR7 HLN7
          have HMEM := Lib.hid hmem
          clear hrr hb7 hmem hrs
          go_wp2
          go_loopw [15] (fun s15 wk => ∃ k : Nat, k ≤ u6.length ∧ s15 = .int .i64 k ∧ Below w7.heap.size w7 wk) (fun s15 _ => u6.length - (ivOf s15).toNat)
          case atStart => exact ⟨0, Nat.zero_le _, rfl, Below.refl _ _⟩
          case round =>
            obtain ⟨k6, hk6, rfl, hbk⟩ := hrel
            by_cases hlk : k6 < u6.length
            · have j0 : (0 : Int) ≤ (k6 : Int) := by omega
              have j1 : (k6 : Int) < (u6.length : Int) := by omega
              go_wp2
              go_loopw [16, 17] (fun s16 s17 wj => ∃ j : Nat, j ≤ u6.length ∧ s17 = .int .i64 j ∧ s16 = .bool (decide (u6[k6] ∈ rs.take j)) ∧ Below w7.heap.size w7 wj) (fun _ s17 _ => u6.length - (ivOf s17).toNat)
              case atStart => exact ⟨0, Nat.zero_le _, rfl, by simp, hbk⟩
              case round =>
                obtain ⟨j, hj, rfl, rfl, hbj⟩ := hrel
                by_cases hlj : j < u6.length
                · have m0 : (0 : Int) ≤ (j : Int) := by omega
                  have m1 : (j : Int) < (u6.length : Int) := by omega
                  have hjr : j < rs.length := by rw [HLN7.out]; exact hlj
                  have hsc := in_succ rs j u6[k6] hjr
                  by_cases hmm : u6[k6] ∈ rs.take j
                  · have hd : decide (u6[k6] ∈ rs.take j) = true := decide_eq_true hmm
                    rw [hd] at hsc ⊢
                    rw [Bool.true_or] at hsc
                    have HSC := Lib.hid hsc
                    clear hsc hd hmm
                    go_wp2
                    refine wp_region_still_tail 12 (by kernel_rfl) (by kernel_rfl) ?_
                    simp only [List.take_succ_cons, List.take_zero, List.drop_succ_cons, List.drop_zero]
                    refine wpStill_val rfl (.bool true) (by kernel_rfl) ?_
                    refine wpStill_val rfl (.bool true) (by kernel_rfl) ?_
                    iterate 9 (refine still_skip (by kernel_rfl) ?_)
                    refine wpStill_val rfl (.bool true) (by kernel_rfl) ?_
                    refine wpStill_nil ?_
                    simp only [Act.put, List.setIfInBounds_toArray, List.set_cons_zero, List.set_cons_succ]
                    go_wp2
                    exact ⟨⟨j + 1, by omega, by go_num, by rw [HSC.out], hbj.drew⟩, by simp [ivOf]; omega⟩
                  · have hd : decide (u6[k6] ∈ rs.take j) = false := decide_eq_false hmm
                    rw [hd] at hsc ⊢
                    rw [Bool.false_or] at hsc
                    obtain ⟨qr, rfl, hcr⟩ := (HR7.out.below hbj).at j (by rw [List.length_map]; exact hjr)
                    obtain ⟨qu, rfl, hcu⟩ := (HQ7.out.2.1.below hbj).at k6 (by rw [List.length_map]; exact hlk)
                    rw [List.getElem_map] at hcr hcu
                    obtain ⟨zr, hzr⟩ : ∃ z, z = Int.ofNat rs[j] := ⟨_, rfl⟩
                    obtain ⟨zu, hzu⟩ : ∃ z, z = Int.ofNat u6[k6] := ⟨_, rfl⟩
                    rw [← hzr, ← hzu] at hsc
                    rw [← hzr] at hcr
                    rw [← hzu] at hcu
                    replace hcr : wr.drew.cell? (qr.add j) = some (.int .i64 zr) := hcr
                    replace hcu : wr.drew.cell? (qu.add k6) = some (.int .i64 zu) := hcu
                    have HSC := Lib.hid hsc
                    clear hsc hd hmm hzr hzu
                    go_wp2
                    go_still_tail 12, (by kernel_rfl)
                    change wpList _ _ _ _ _ wr.drew
                    go_wp2
                    exact ⟨⟨j + 1, by omega, by go_num, by rw [HSC.out]; congr 1, hbj.drew⟩, by simp [ivOf]; omega⟩
                · obtain rfl : j = u6.length := by omega
                  have hd : decide (u6[k6] ∈ rs.take u6.length) = true := decide_eq_true (by rw [← HLN7.out, List.take_length]; exact HMEM.out _ (List.getElem_mem _))
                  rw [hd]
                  clear hd
                  go_wp2
                  exact ⟨⟨k6 + 1, by omega, by go_num, hbj⟩, by simp [ivOf]; omega⟩
            · obtain rfl : k6 = u6.length := by omega
              have HN := Lib.hid (show OuR w p d (i + 1) (.slice a6 u6.length c6) wr from ⟨y, u6, a6, c6, rfl, HQ7.out.below hbk, HY.out.1, ou_len HY.out.1, HY.out.2⟩)
              go_wp2
              exact ⟨⟨i + 1, by omega, by go_num, HN.out⟩, by simp [ivOf]; omega⟩
    · obtain rfl : i = n := by omega
      have HB := Lib.hid hP.1
      clear hP hO ho
      go_wp2
      go_ret
      exact ⟨rfl, HB.out⟩
end Go.Proofs.Ytocepcibcapfbaa
