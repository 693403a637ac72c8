/- slices.Clone of bytes; slices.IndexFunc, slices.DeleteFunc of ints, by whatever closure that only reads. -/
import Derived.Test.YtocepcibcapfbaaGreatJ21
import Derived.Lib.SliceRun
namespace Go.Proofs.YtocepcibcapfbaaGreat
set_option linter.unusedVariables false
set_option linter.unusedSimpArgs false
set_option linter.unusedSectionVars false
open Go.RowKit
variable [Inhabited AvT]

set_option maxRecDepth 100000 in
set_option maxHeartbeats 1600000 in
theorem cln_any (a : Option Addr) (n c : Nat) (l : List UInt8) (w : World) (hr : Rd w a n l) (hn : n ≤ 1048576) :
    Calls Tryz.prog 45 #[.slice a n c] w fun e w' => ∃ v, e = .returned v ∧ OB w' w.heap.size v l ∧ Below w.heap.size w w' := by
  have HR := Lib.hid hr
  have hl := hr.1
  rcases a with _ | p
  · have hl0 : l = [] := by
      rcases l with _ | ⟨x, l⟩
      · rfl
      · obtain ⟨p, e, -⟩ := hr.at 0 (by simp)
        cases e
    subst hl0
    clear hr
    simp at hl
    subst hl
    have he : ∀ w : World, (binOp .eql 38 (.slice none 0 c) (.slice none 0 0)).run Tryz.prog w = .ok (.bool true) w := fun _ => rfl
    go_enter Tryz.func45, Tryz.ntmps45
    go_wp2
    go_ret
    exact ⟨_, rfl, OB.nil _ _, Below.refl _ _⟩
  · have hb : Below w.heap.size w (w.alloc (.cells #[] 5)) := (Below.refl _ w).alloc (Nat.le_refl _) _
    have ho : OB (w.alloc (.cells #[] 5)) w.heap.size (.slice (some ⟨w.heap.size, 0, none⟩) 0 0) [] := ⟨rfl, .inr ⟨w.heap.size, 0, #[], rfl, Nat.le_refl _, alloc_new _ _ _ rfl, Nat.le_refl _, by unfold maxLen; omega, rfl, rfl⟩⟩
    have HO := Lib.hid ho
    have HB := Lib.hid hb
    have he : ∀ w : World, (binOp .eql 38 (.slice (some p) n c) (.slice none 0 0)).run Tryz.prog w = .ok (.bool false) w := fun _ => rfl
    clear hr ho hb
    go_enter Tryz.func45, Tryz.ntmps45
    go_wp2_with (at_builtin; refine wpList_app _ rfl _ _ rfl w.heap.size _ _ rfl HO.out _ _ _ _ rfl (HR.out.below HB.out) ?c1 ?c2 ?_)
    case c1 => simp; omega
    case c2 => simp
    intro v1 w1 ho1 hg1 hat1
    have hb1 := HO.out.grown HB.out (by simp) hg1
    go_wp2
    go_ret
    exact ⟨_, rfl, ho1, hb1⟩
def SameW (a b : World) : Prop := a = b
/-- A closure that says pr of an element. -/
def Prd (fd : FuncId) (caps : Array Value) (l : List Int) (pr : Int → Bool) (w : World) : Prop := ∀ x ∈ l, Calls Tryz.prog fd (#[.int .i64 x] ++ caps) w fun e w' => e = .returned (.bool (pr x)) ∧ w = w'
/-- Where the first one is of which pr is true. -/
def ixOf (pr : Int → Bool) : List Int → Int
  | [] => -1
  | x :: r => if pr x = true then 0 else if ixOf pr r < 0 then -1 else ixOf pr r + 1
set_option maxRecDepth 100000 in
theorem ixOf_none (pr : Int → Bool) : ∀ (l : List Int), (∀ x ∈ l, pr x = false) → ixOf pr l = -1
  | [], _ => rfl
  | x :: r, h => by
    have h1 := ixOf_none pr r (fun y hy => h y (List.mem_cons_of_mem _ hy))
    unfold ixOf
    rw [h x List.mem_cons_self, h1]
    rfl
theorem ixOf_some (pr : Int → Bool) : ∀ (l : List Int) (k : Nat) (x : Int), l[k]? = some x → pr x = true → (∀ j y, j < k → l[j]? = some y → pr y = false) → ixOf pr l = (k : Int)
  | [], k, x, h, _, _ => by simp at h
  | z :: r, 0, x, h, hp, _ => by
    simp at h
    subst h
    unfold ixOf
    rw [if_pos hp]
    rfl
  | z :: r, k + 1, x, h, hp, hn => by
    have h1 := ixOf_some pr r k x (by simpa using h) hp (fun j y hj hy => hn (j + 1) y (by omega) (by simpa using hy))
    unfold ixOf
    rw [hn 0 z (by omega) rfl, h1, if_neg (by simp), if_neg (by omega)]
    omega
set_option maxRecDepth 100000 in
set_option maxHeartbeats 1600000 in
theorem idxf_any (fd : FuncId) (caps : Array Value) (hen : ∀ args w, (callFunc fd args).run Tryz.prog w = .ok (.enter fd args) w) (l : List Int) (pr : Int → Bool) (a : Option Addr) (n c : Nat) (w : World) (hr : RI w a n l) (hcl : Prd fd caps l pr w) (hn : n ≤ 1000000) :
    Calls Tryz.prog 83 #[.slice a n c, .func (.func fd) #[] caps] w fun e w' => e = .returned (.int .i64 (ixOf pr l)) ∧ w = w' := by
  have HR := Lib.hid hr
  have HEN := Lib.hid hen
  have HCL := Lib.hid hcl
  have HLN := Lib.hid hr.len
  clear hr hen hcl
  go_enter Tryz.func83, Tryz.ntmps83
  go_wp2
  go_loopw [8] (fun i8 wr => ∃ k : Nat, k ≤ n ∧ i8 = .int .i64 k ∧ SameW w wr ∧ Hid (∀ j y, j < k → l[j]? = some y → pr y = false)) (fun i8 _ => n - (intOf i8).toNat)
  case atStart => exact ⟨0, by omega, rfl, rfl, Lib.hid (fun j y hj => by omega)⟩
  case round =>
    obtain ⟨k, hk, rfl, HW, HN⟩ := hrel
    obtain rfl : w = wr := HW
    by_cases hlt : k < n
    · have hkl : k < l.length := by have := HLN.out; omega
      have i1 : (k : Int) < (n : Int) := by omega
      have i0 : (0 : Int) ≤ (k : Int) := by omega
      obtain ⟨p, hp, hc⟩ := HR.out.at k hkl
      subst hp
      have HX := Lib.hid (show l[k]? = some l[k] from List.getElem?_eq_getElem _)
      have HM := Lib.hid (show l[k] ∈ l from List.getElem_mem _)
      generalize l[k] = x at *
      clear hkl
      have H1 := Lib.hid (HCL.out x HM.out)
      go_wp2_with fail
      rw [HEN.out, Oper.upon_enter]
      refine H1.out.mono ?_
      rintro e w1 ⟨rfl, rfl⟩
      rcases hpx : pr x with _ | _
      · have HP := Lib.hid hpx
        clear hpx
        go_wp2
        exact ⟨⟨k + 1, by omega, by go_num, rfl, Lib.hid (fun j y hj hy => by
          rcases Nat.lt_or_ge j k with h | h
          · exact HN.out j y h hy
          · obtain rfl : j = k := by omega
            rw [HX.out] at hy
            cases hy
            exact HP.out)⟩, by simp [intOf]; omega⟩
      · have HP := Lib.hid hpx
        clear hpx
        go_wp2
        go_ret
        refine ⟨?_, rfl⟩
        rw [ixOf_some pr l k x HX.out HP.out HN.out]
        rfl
    · obtain rfl : k = n := by omega
      go_wp2
      go_ret
      refine ⟨?_, rfl⟩
      rw [ixOf_none pr l (fun x hx => by
        obtain ⟨j, hj, rfl⟩ := List.getElem_of_mem hx
        exact HN.out j _ (by have := HLN.out; omega) (List.getElem?_eq_getElem hj))]
      rfl
theorem setCells_heap (g : Nat) (t : TypeId) (fr : Nat × Nat) : ∀ (vs : List Value) (o : Nat) (C : Array Value) (w : World), w.heap[g]? = some (.cells C t fr) → ∃ C', (w.setCells g o vs).heap[g]? = some (.cells C' t fr) ∧ C'.size = C.size ∧ (∀ m, m < o → C'[m]? = C[m]?) ∧ Chg (fun k => k = g) w (w.setCells g o vs)
  | [], o, C, w, h => ⟨C, h, rfl, fun _ _ => rfl, Chg.refl _ _⟩
  | v :: r, o, C, w, h => by
    obtain ⟨C', h1, h2, h3, h4⟩ := setCells_heap g t fr r (o + 1) (C.setIfInBounds o v) (w.setCell ⟨g, o, none⟩ v) (blk_setCell h o v)
    refine ⟨C', h1, by rw [h2]; simp, fun m hm => ?_, (setCell_chg w g o v).trans h4⟩
    rw [h3 m (by omega), Array.getElem?_setIfInBounds_ne (by omega)]
theorem int_zero (w : World) : (zeroValue 3).run Tryz.prog w = .ok (.int .i64 0) w := Tryz.zeroValue3 w
/-- What stays. -/
def keep (pr : Int → Bool) (l : List Int) : List Int := l.filter fun x => !pr x
theorem keep_snoc (pr : Int → Bool) (l : List Int) (x : Int) : keep pr (l ++ [x]) = keep pr l ++ (if pr x = true then [] else [x]) := by
  unfold keep
  rw [List.filter_append]
  rcases h : pr x with _ | _ <;> simp [h]
theorem keep_le (pr : Int → Bool) (l : List Int) : (keep pr l).length ≤ l.length := List.length_filter_le _ _
theorem keep_all {pr : Int → Bool} {l : List Int} (h : ∀ x ∈ l, pr x = false) : keep pr l = l := List.filter_eq_self.2 (fun x hx => by simp [h x hx])
theorem take_at {l : List Int} {k : Nat} {x : Int} (h : l[k]? = some x) : l.take (k + 1) = l.take k ++ [x] := by
  rw [List.take_add_one, h]
  rfl
/-- How the row stands while it is gone through: i stay of the first j. -/
def Stand (pr : Int → Bool) (l : List Int) (g cap i j : Nat) (w : World) : Prop :=
  ∃ C, w.heap[g]? = some (.cells C 3 (0, 0)) ∧ C.size = cap ∧ i = (keep pr (l.take j)).length ∧ i < j ∧ (∀ m, m < i → C[m]? = (ivs (keep pr (l.take j)))[m]?) ∧ ∀ m, j ≤ m → m < l.length → C[m]? = (ivs l)[m]?
theorem Stand.skip {pr : Int → Bool} {l : List Int} {g cap i j : Nat} {w : World} {x : Int} (h : Stand pr l g cap i j w) (hx : l[j]? = some x) (hp : pr x = true) : Stand pr l g cap i (j + 1) w := by
  obtain ⟨C, h1, h2, h3, h4, h5, h6⟩ := h
  have e : keep pr (l.take (j + 1)) = keep pr (l.take j) := by rw [take_at hx, keep_snoc, if_pos hp, List.append_nil]
  exact ⟨C, h1, h2, by rw [e]; exact h3, by omega, fun m hm => by rw [e]; exact h5 m hm, fun m hm hl => h6 m (by omega) hl⟩
theorem Stand.lay {pr : Int → Bool} {l : List Int} {g cap i j : Nat} {w : World} {x : Int} (h : Stand pr l g cap i j w) (hx : l[j]? = some x) (hp : pr x = false) : Stand pr l g cap (i + 1) (j + 1) (w.setCell ⟨g, i, none⟩ (.int .i64 x)) := by
  obtain ⟨C, h1, h2, h3, h4, h5, h6⟩ := h
  have e : keep pr (l.take (j + 1)) = keep pr (l.take j) ++ [x] := by rw [take_at hx, keep_snoc, if_neg (by rw [hp]; simp)]
  have hjl : j < l.length := (List.getElem?_eq_some_iff.1 hx).1
  have hC : j < C.size := by
    have h7 := h6 j (Nat.le_refl _) hjl
    rw [List.getElem?_eq_getElem (by rw [ivs_length]; exact hjl)] at h7
    exact (Array.getElem?_eq_some_iff.1 h7).1
  refine ⟨C.setIfInBounds i (.int .i64 x), blk_setCell h1 i _, by simpa using h2, by rw [e, List.length_append, ← h3]; rfl, by omega, fun m hm => ?_, fun m hm hl => ?_⟩
  · rw [e]
    by_cases hmi : m = i
    · subst hmi
      rw [Array.getElem?_setIfInBounds_self_of_lt (by omega)]
      simp [ivs, iv, h3]
    · rw [Array.getElem?_setIfInBounds_ne (by omega), h5 m (by omega)]
      simp only [ivs, List.map_append]
      rw [List.getElem?_append_left (by rw [List.length_map]; omega)]
  · rw [Array.getElem?_setIfInBounds_ne (by omega)]
    exact h6 m (by omega) hl
set_option maxRecDepth 100000 in
set_option maxHeartbeats 3200000 in
/-- slices.DeleteFunc over a row of the call's own. -/
theorem delf_any (fd : FuncId) (caps : Array Value) (hen : ∀ args w, (callFunc fd args).run Tryz.prog w = .ok (.enter fd args) w) (l : List Int) (pr : Int → Bool) (B n c : Nat) (a : Option Addr) (w : World) (ho : OV w B 3 1 (.slice a n c) n (ivs l)) (hn : n ≤ 1000000)
    (hcl : ∀ w', Chg (fun k => (Value.slice a n c).ownBlock = some k) w w' → Prd fd caps l pr w') :
    Calls Tryz.prog 67 #[.slice a n c, .func (.func fd) #[] caps] w fun e w' => e = .returned (.slice a (keep pr l).length c) ∧ OV w' B 3 1 (.slice a (keep pr l).length c) (keep pr l).length (ivs (keep pr l)) ∧ Chg (fun k => (Value.slice a n c).ownBlock = some k) w w' := by
  have hri : RI w a n l := by
    obtain ⟨a', c', e, hr, -⟩ := ho.form
    cases e
    exact hr
  have hln := hri.len
  have HI := Lib.hid (idxf_any fd caps hen l pr a n c w hri (hcl w (Chg.refl _ _)) hn)
  by_cases hany : ∀ x ∈ l, pr x = false
  · rw [ixOf_none pr l hany] at HI
    rw [keep_all hany]
    have HE := Lib.hid (show (Ending.returned (.slice a n c) = .returned (.slice a l.length c)) ∧ OV w B 3 1 (.slice a l.length c) l.length (ivs l) from by rw [hln]; exact ⟨rfl, ho⟩)
    clear ho hcl hri hany hln
    go_enter Tryz.func67, Tryz.ntmps67
    go_wp2_with (go_at_call 83; refine HI.out.mono ?_; rintro e w1 ⟨rfl, rfl⟩)
    go_ret
    exact ⟨HE.out.1, HE.out.2, Chg.refl _ _⟩
  · obtain ⟨k, x, hkx, hpx, hpre⟩ : ∃ (k : Nat) (x : Int), l[k]? = some x ∧ pr x = true ∧ ∀ j y, j < k → l[j]? = some y → pr y = false := by
      clear HI ho hcl hri hln
      induction l with
      | nil => exact absurd (fun x hx => by simp at hx) hany
      | cons z r ih =>
        rcases hz : pr z with _ | _
        · obtain ⟨k, x, h1, h2, h3⟩ := ih (fun h => hany (fun x hx => by rcases List.mem_cons.1 hx with rfl | hx; exact hz; exact h x hx))
          refine ⟨k + 1, x, by simpa using h1, h2, fun j y hj hy => ?_⟩
          rcases j with _ | j
          · simp at hy; subst hy; exact hz
          · exact h3 j y (by omega) (by simpa using hy)
        · exact ⟨0, z, rfl, hz, fun j y hj => by omega⟩
    rw [ixOf_some pr l k x hkx hpx hpre] at HI
    have hkl : k < l.length := (List.getElem?_eq_some_iff.1 hkx).1
    rcases ho.2 with ⟨-, e⟩ | ⟨g, cap, cur, e, hbg, hg, hnc, hcm, hcs, htk⟩
    · omega
    cases e
    have hst : Stand pr l g c k (k + 1) w := by
      have hk1 : keep pr (l.take k) = l.take k := keep_all (fun y hy => by
        obtain ⟨j, hj, rfl⟩ := List.getElem_of_mem hy
        rw [List.length_take] at hj
        exact hpre j _ (by omega) (by rw [List.getElem_take, List.getElem?_eq_getElem]))
      have hk2 : keep pr (l.take (k + 1)) = l.take k := by rw [take_at hkx, keep_snoc, if_pos hpx, List.append_nil, hk1]
      have hcur : ∀ m, m < l.length → cur[m]? = (ivs l)[m]? := fun m hm => by
        rw [← htk, List.getElem?_take, if_pos (by omega), Array.getElem?_toList]
      refine ⟨cur, hg, by omega, by rw [hk2, List.length_take]; omega, by omega, fun m hm => ?_, fun m hm hl => hcur m hl⟩
      rw [hk2, hcur m (by omega)]
      simp only [ivs, List.map_take, List.getElem?_take, if_pos hm]
    have HST := Lib.hid hst
    have HCL := Lib.hid (show ∀ w', Chg (fun k => k = g) w w' → Prd fd caps l pr w' from fun w' hw => hcl w' (hw.mono (fun i _ h => by rw [h]; rfl)))
    have HEN := Lib.hid hen
    have HLN := Lib.hid hln
    have HFIN := Lib.hid (And.intro hbg (And.intro hnc hcm))
    have hn1 : (n : Int) ≤ (c : Int) := by omega
    have hk0 : ((k : Int) == -1) = false := by simp
    have hkn : k < n := by omega
    clear hst hcl hen hln hri ho hkx hpx hpre hkl hany hg hbg hnc hcm hcs htk
    go_enter Tryz.func67, Tryz.ntmps67
    go_wp2_with (go_at_call 83; refine HI.out.mono ?_; rintro e w1 ⟨rfl, rfl⟩)
    go_loopw [5, 6] (fun s5 s6 wr => ∃ i j : Nat, j ≤ n ∧ s5 = .int .i64 i ∧ s6 = .int .i64 j ∧ Stand pr l g c i j wr ∧ Chg (fun k => k = g) w wr) (fun _ s6 _ => n - (intOf s6).toNat)
    case atStart => exact ⟨k, k + 1, by omega, rfl, by go_num, HST.out, Chg.refl _ _⟩
    case round =>
      obtain ⟨i, j, hj, rfl, rfl, HS, HC⟩ := hrel
      have hij : i < j := by obtain ⟨C, h1, h2, h3, h4, -⟩ := HS; exact h4
      clear hkn hk0
      by_cases hlt : j < n
      · obtain ⟨x, hx⟩ : ∃ x, l[j]? = some x := ⟨_, List.getElem?_eq_getElem (by have := HLN.out; omega)⟩
        have i0 : (0 : Int) ≤ (j : Int) := by omega
        have i1 : (j : Int) < (n : Int) := by omega
        have i2 : (0 : Int) ≤ (i : Int) := by omega
        have i3 : (i : Int) < (n : Int) := by omega
        have hcj : wr.cell? ⟨g, j, none⟩ = some (.int .i64 x) := by
          obtain ⟨C, h1, h2, h3, h4, h5, h6⟩ := HS
          rw [cell_blk h1, h6 j (Nat.le_refl _) (List.getElem?_eq_some_iff.1 hx).1]
          simp [ivs, iv, hx]
        obtain ⟨y, hci⟩ : ∃ y, wr.cell? ⟨g, i, none⟩ = some y := by
          obtain ⟨C, h1, h2, h3, h4, h5, h6⟩ := HS
          exact ⟨_, (cell_blk h1 i).trans (Array.getElem?_eq_getElem (by omega))⟩
        have hfi : wr.frozen? ⟨g, i, none⟩ = false := by
          obtain ⟨C, h1, -⟩ := HS
          exact free_blk h1 i
        have H1 := Lib.hid (HCL.out wr HC x (List.mem_of_getElem? hx))
        have HX := Lib.hid hx
        have HSS := Lib.hid HS
        have HCC := Lib.hid HC
        clear hx HS HC
        go_wp2_with fail
        rw [HEN.out, Oper.upon_enter]
        refine H1.out.mono ?_
        rintro e w1 ⟨rfl, rfl⟩
        rcases hpx : pr x with _ | _
        · have HP := Lib.hid hpx
          clear hpx
          go_wp2
          exact ⟨⟨i + 1, j + 1, by omega, by go_num, by go_num, HSS.out.lay HX.out HP.out, HCC.out.setCell _ _ (.inr rfl)⟩, by simp [intOf]; omega⟩
        · have HP := Lib.hid hpx
          clear hpx
          go_wp2
          exact ⟨⟨i, j + 1, by omega, rfl, by go_num, HSS.out.skip HX.out HP.out, HCC.out⟩, by simp [intOf]; omega⟩
      · obtain rfl : j = n := by omega
        have hke : keep pr (l.take j) = keep pr l := by rw [List.take_of_length_le (by have := HLN.out; omega)]
        have hcl : ∀ ty, (Builtin.clear_ #[61] ty #[.slice (some ⟨g, i, none⟩) (j - i) (c - i)]).run Tryz.prog wr = .ok (.tuple #[]) (wr.setCells g i (List.replicate (j - i) (.int .i64 0))) := fun ty => by
          obtain ⟨C, h1, h2, h3, h4, h5, h6⟩ := HS
          exact Lib.run_clear_slice wr _ _ ty _ Tryz.underlying61 int_zero rfl rfl g i _ _ (by omega) (fun t ht => by rw [cell_blk h1, Array.getElem?_eq_getElem (by omega)]; rfl) (fun t ht => free_blk h1 _)
        have HE := Lib.hid (show (Ending.returned (.slice (some ⟨g, 0, none⟩) i c) = .returned (.slice (some ⟨g, 0, none⟩) (keep pr l).length c)) ∧ OV (wr.setCells g i (List.replicate (j - i) (.int .i64 0))) B 3 1 (.slice (some ⟨g, 0, none⟩) (keep pr l).length c) (keep pr l).length (ivs (keep pr l)) ∧ Chg (fun k => (Value.slice (some ⟨g, 0, none⟩) j c).ownBlock = some k) w (wr.setCells g i (List.replicate (j - i) (.int .i64 0))) from by
          obtain ⟨C, h1, h2, h3, h4, h5, h6⟩ := HS
          rw [hke] at h3 h5
          obtain ⟨C', q1, q2, q3, q4⟩ := setCells_heap g 3 (0, 0) (List.replicate (j - i) (.int .i64 0)) i C wr h1
          have hkl := keep_le pr l
          refine ⟨by rw [h3], ⟨by rw [ivs_length]; omega, .inr ⟨g, c, C', rfl, HFIN.out.1, q1, by have := HLN.out; omega, HFIN.out.2.2, by omega, ?_⟩⟩, (HC.trans q4).mono (fun k _ e => by rw [e]; rfl)⟩
          apply List.ext_getElem?
          intro m
          rw [List.getElem?_take, Array.getElem?_toList]
          by_cases hm : m < (keep pr l).length * 1
          · rw [if_pos hm, q3 m (by omega), h5 m (by omega)]
          · rw [if_neg hm, List.getElem?_eq_none (by rw [ivs_length]; omega)])
        have z1 : ¬ c = i := by omega
        have z2 : (i : Int) ≤ (j : Int) := by omega
        have z3 : (0 : Int) ≤ (i : Int) := by omega
        have z4 : i ≤ c := by omega
        have z5 : i ≤ j := by omega
        clear HS HC hke
        go_wp2
        go_ret
        exact HE.out
end Go.Proofs.YtocepcibcapfbaaGreat
