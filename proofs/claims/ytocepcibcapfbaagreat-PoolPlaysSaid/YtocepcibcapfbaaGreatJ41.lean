/- The pool: Flush, Evict. -/
import Derived.Test.YtocepcibcapfbaaGreatJ40
namespace Go.Proofs.YtocepcibcapfbaaGreat
set_option linter.unusedVariables false
set_option linter.unusedSimpArgs false
set_option linter.unusedSectionVars false
open Go.RowKit Go.Maps
variable [Inhabited AvT]
variable {B o c : Nat} {w : World} {p d np N : Nat} {x : P.Po}

theorem RV.tyx {X : Nat → Prop} {C : Nat} {T : Option TypeId → Prop} {w w' : World} {a : Option Addr} {n s : Nat} {l : List Value} (h : RV w a n s l) (hw : TyX X C T w w') (hX : ∀ p, a = some p → ¬ X p.block ∧ ∃ t, tagA w p.block = some t ∧ ¬ T t) : RV w' a n s l :=
  h.of_cells fun p e i hi => by
    obtain ⟨q, e', hq⟩ := h.2.2 i hi
    rw [e] at e'; cases e'
    obtain ⟨h1, t, h2, h3⟩ := hX p e
    refine World.cell?_of_block (w := w) ?_
    rw [add_block]
    exact hw.block _ (tagA_lt h2) h1 (fun hb t' e => by rw [h2] at e; cases e; exact h3)
theorem flushE_app (A B : List Nat) (y : P.Po) : P.flushE (A ++ B) y = if P.flushE A y = 0 then P.flushE B (P.flushP A y) else P.flushE A y := by
  induction A generalizing y with
  | nil => rfl
  | cons n r ih =>
    show (if y.d.wrE = 0 then P.flushE (r ++ B) (P.clean1 y n) else y.d.wrE) = _
    by_cases h : y.d.wrE = 0
    · rw [if_pos h, ih]
      simp only [P.flushE, P.flushP, if_pos h]
    · rw [if_neg h]
      simp only [P.flushE, P.flushP, if_neg h]
theorem flushP_app (A B : List Nat) (y : P.Po) : P.flushP (A ++ B) y = if P.flushE A y = 0 then P.flushP B (P.flushP A y) else P.flushP A y := by
  induction A generalizing y with
  | nil => rfl
  | cons n r ih =>
    show (if y.d.wrE = 0 then P.flushP (r ++ B) (P.clean1 y n) else P.clean1 y n) = _
    by_cases h : y.d.wrE = 0
    · rw [if_pos h, ih]
      simp only [P.flushE, P.flushP, if_pos h]
    · rw [if_neg h]
      simp only [P.flushE, P.flushP, if_neg h]
/-- After k pages. -/
def FlR (B o c : Nat) (p d np N : Nat) (x : P.Po) (L : List Nat) (w1 : World) (k : Nat) (wr : World) : Prop :=
  P.flushE (L.take k) x = 0 ∧ PoV B o c w1 p d np N (P.flushP (L.take k) x) wr ∧ (∀ m ∈ L.drop k, P.at? (P.flushP (L.take k) x).l m = P.at? x.l m) ∧ (P.flushP (L.take k) x).d.ops ≤ x.d.ops + k
theorem clnpg (n : Nat) : ∀ f : P.Fr, (if f.pg = n then { f with dirty := false } else f).pg = f.pg := by intro f; split <;> rfl
theorem clean1_some {y : P.Po} {n : Nat} {f : P.Fr} (h : P.at? y.l n = some f) : P.clean1 y n = ⟨y.d.wrD n f.b, if y.d.wrE = 0 then y.l.map fun f => if f.pg = n then { f with dirty := false } else f else y.l⟩ := by
  unfold P.clean1
  rw [h]
/-- One more page. -/
theorem flr_step {L : List Nat} {w1 : World} {k : Nat} {w2 : World} {f : P.Fr} {n : Nat} (hok : x.ok N np) (hnd : L.Nodup) (hk : L[k]? = some n) (hf : P.at? (P.flushP (L.take k) x).l n = some f) (hE : P.flushE (L.take k) x = 0) (h1 : ∀ m ∈ L.drop k, P.at? (P.flushP (L.take k) x).l m = P.at? x.l m) (hops : (P.flushP (L.take k) x).d.ops ≤ x.d.ops + k)
    (hw : (P.flushP (L.take k) x).d.wrE = 0) (h2 : PoV B o c w1 p d np N (P.clean1 (P.flushP (L.take k) x) n) w2) : FlR B o c p d np N x L w1 (k + 1) w2 := by
  have ht : L.take (k + 1) = L.take k ++ [n] := by rw [List.take_add_one, hk]; rfl
  have e1 : P.flushE (L.take (k + 1)) x = 0 := by rw [ht, flushE_app, if_pos hE]; simp [P.flushE, hw]
  have e2 : P.flushP (L.take (k + 1)) x = P.clean1 (P.flushP (L.take k) x) n := by rw [ht, flushP_app, if_pos hE]; simp [P.flushP, hw]
  have hc := clean1_some hf
  refine ⟨e1, by rw [e2]; exact h2, fun m hm => ?_, ?_⟩
  · have hkl := (List.getElem?_eq_some_iff.1 hk).1
    have hd : L.drop k = n :: L.drop (k + 1) := by rw [List.drop_eq_getElem_cons hkl, (List.getElem?_eq_some_iff.1 hk).2]
    have hm' : m ∈ L.drop k := by rw [hd]; exact List.mem_cons_of_mem _ hm
    have hne : m ≠ n := by
      intro e
      have h3 := (List.drop_sublist k L).nodup hnd
      rw [hd] at h3
      rw [e] at hm
      exact (List.nodup_cons.1 h3).1 hm
    rw [e2, hc, if_pos hw, ← h1 m hm', P.at_map _ _ (clnpg n)]
    rcases hq : P.at? (P.flushP (L.take k) x).l m with _ | g
    · rfl
    · have := (P.at_some hq).2
      simp [show g.pg ≠ n by omega]
  · rw [e2, hc]
    have := (P.flushP (L.take k) x).d.wr_ops n f.b
    show ((P.flushP (L.take k) x).d.wrD n f.b).ops ≤ _
    omega
set_option maxRecDepth 100000 in
set_option maxHeartbeats 3200000 in
theorem flush1_any (h : PoIs B o c w p d np N x) (hop : x.d.ops < 990000) (bp : Nat) (kp : w.heap[bp]? = some (.cells #[.pointer (some ⟨p, 0, none⟩)] 32 (0, 0))) :
    Calls Tryz.prog 57 #[.pointer (some ⟨bp, 0, none⟩)] w (DoE B o c p d np N (P.flushP (x.dirt np) x) (P.flushE (x.dirt np) x) w) := by
  have HR := Lib.hid (pdirty_any h)
  have H := Lib.hid h
  have HOK := Lib.hid h.2
  have hnp : np ≤ 4096 := by obtain ⟨⟨mb, n, F, vo, V, hs⟩, -⟩ := h; exact hs.big.2.2.2.2.2
  obtain ⟨L, hL⟩ : ∃ L, L = x.dirt np := ⟨_, rfl⟩
  rw [← hL] at HR ⊢
  have hll : L.length ≤ 4096 := by
    rw [hL]
    unfold P.Po.dirt
    exact Nat.le_trans (List.length_filter_le _ _) (by simp; exact hnp)
  have HLM := Lib.hid (show ∀ k ∈ L, ∃ f, P.at? x.l k = some f ∧ f.dirty = true from fun k hk => by
    rw [hL] at hk
    have := (List.mem_filter.1 hk).2
    rcases hq : P.at? x.l k with _ | f
    · rw [hq] at this; simp at this
    · rw [hq] at this
      exact ⟨f, rfl, by simpa using this⟩)
  have HND := Lib.hid (show L.Nodup from by rw [hL]; exact List.Pairwise.sublist List.filter_sublist List.nodup_range)
  have hbo := h.ne kp (by decide) (by decide)
  have HBO := Lib.hid hbo
  have HLT := Lib.hid h.lt
  have HKP := Lib.hid kp
  have HOP := Lib.hid hop
  have gp := cell_blk kp
  clear h hL hbo kp hop hnp
  obtain ⟨LL, hLL⟩ : ∃ LL, LL = L.length := ⟨_, rfl⟩
  have HLL := Lib.hid hLL
  rw [← hLL] at hll
  go_enter Tryz.func57, Tryz.ntmps57
  go_wp2_with fail
  refine HR.out.mono ?_
  rintro e w1 ⟨v, rfl, ho, hb⟩
  have htag := OV.tag ho
  obtain ⟨a, cp, hv, hri0, hcp0, ha0, -⟩ := ho.form
  rw [← hLL] at hv hri0
  clear hLL
  have hri : RI w1 a LL (L.map Int.ofNat) := hri0
  have HTG := Lib.hid (show ∀ q, a = some q → q.block ≠ o ∧ tagA w1 q.block = some (some 3) from fun q hq => by
    have h1 := ha0 q hq
    have h2 := HLT.out.2
    exact ⟨by omega, (htag _ h1.2.2).1⟩)
  subst hv
  have HRI := Lib.hid hri
  have HB := Lib.hid hb
  have hP1 := H.out.below hb
  have HP1 := Lib.hid hP1
  have kp1 := (hb.block _ (lt_of_block HKP.out)).trans HKP.out
  have HKP1 := Lib.hid kp1
  have HST := Lib.hid (show FlR B o c p d np N x L w1 0 w1 from ⟨rfl, hP1.self (Below.refl _ _), fun _ _ => rfl, Nat.le_refl _⟩)
  clear hri hri0 ho hb hP1 kp1 htag ha0 hcp0 gp
  go_wp2
  go_loopw [6] (fun s6 wr => ∃ k : Nat, k ≤ LL ∧ s6 = .int .i64 k ∧ FlR B o c p d np N x L w1 k wr) (fun s6 _ => LL - (ivOf s6).toNat)
  case atStart => exact ⟨0, by omega, rfl, HST.out⟩
  case round =>
    obtain ⟨k, hk, rfl, hE, hV, hat, hops⟩ := hrel
    have HV := Lib.hid hV
    obtain ⟨o', ho', hP', hT'⟩ := hV
    by_cases hlt : k < LL
    · have hkl : k < L.length := by have := HLL.out; omega
      have hri' : RI wr a LL (L.map Int.ofNat) := RV.tyx HRI.out hT' (fun q hq => ⟨(HTG.out q hq).1, _, (HTG.out q hq).2, by unfold poT devT; decide⟩)
      obtain ⟨q, hq, hc⟩ := hri'.at k (by simpa using hkl)
      subst hq
      rw [List.getElem_map] at hc
      obtain ⟨n, hn⟩ : ∃ n, L[k] = n := ⟨_, rfl⟩
      have hkn : L[k]? = some n := by rw [List.getElem?_eq_getElem hkl, hn]
      obtain ⟨f, hf, hfd⟩ := HLM.out n (by rw [← hn]; exact List.getElem_mem _)
      have hfy : P.at? (P.flushP (L.take k) x).l n = some f := by rw [hat n (by rw [List.drop_eq_getElem_cons hkl, hn]; exact List.mem_cons_self), hf]
      rw [hn] at hc
      change wr.cell? (q.add k) = some (.int .i64 ((n : Nat) : Int)) at hc
      have hfo := HOK.out.2.1 f (P.at_some hf).1
      have gpr := cell_blk (hT'.box HKP1.out HBO.out (by unfold poT devT; decide))
      have i1 : (k : Int) < (LL : Int) := by omega
      have i0 : (0 : Int) ≤ (k : Int) := by omega
      have HC := Lib.hid (show Calls Tryz.prog 58 #[.pointer (some ⟨p, 0, none⟩), .int .i64 (n : Int)] wr (ClnE B o' c p d np N (P.flushP (L.take k) x).d (P.at? (P.flushP (L.take k) x).l) ((P.flushP (L.take k) x).l.map (·.pg)) n f wr) from by
        obtain ⟨⟨mb, nn, F, vo, V, hs⟩, -⟩ := hP'
        exact pclean_any hs n f hfy hfo.2 (by have := HOP.out; omega))
      have HSTEP := Lib.hid (fun (w2 : World) (hw : (P.flushP (L.take k) x).d.wrE = 0) (h2 : PoV B o c w1 p d np N (P.clean1 (P.flushP (L.take k) x) n) w2) => flr_step HOK.out HND.out hkn hfy hE hat hops hw h2)
      have hoky : (P.clean1 (P.flushP (L.take k) x) n).ok N np := P.clean_ok hP'.2 n (by have := (P.at_some hf).2; omega)
      have hc1 := clean1_some hfy
      have HC1 := Lib.hid hc1
      have HOKY := Lib.hid hoky
      have HO' := Lib.hid ho'
      have HT' := Lib.hid hT'
      have HFY := Lib.hid hfy
      have HFD := Lib.hid hfd
      have HFP := Lib.hid (P.at_some hf).2
      have HEND := Lib.hid (show (P.flushP (L.take k) x).d.wrE ≠ 0 → P.flushE L x = (P.flushP (L.take k) x).d.wrE ∧ P.flushP L x = P.clean1 (P.flushP (L.take k) x) n from fun hw => by
        have hsp : L = L.take k ++ (n :: L.drop (k + 1)) := by rw [← hn, ← List.drop_eq_getElem_cons hkl, List.take_append_drop]
        constructor
        · conv => lhs; rw [hsp]
          rw [flushE_app, if_pos hE]
          exact if_neg hw
        · conv => lhs; rw [hsp]
          rw [flushP_app, if_pos hE]
          exact if_neg hw)
      generalize P.flushP (L.take k) x = y at *
      clear hE hat hops hP' hT' ho' hri' hkn hf hfd hfy hfo hoky hc1 hn hkl
      go_wp2_with fail
      refine HC.out.mono ?_
      rintro e w2 (⟨h1, -, -⟩ | ⟨-, h0, rfl, hW⟩ | ⟨-, h7, rfl, hW⟩)
      · exact absurd h1 (by rw [HFD.out]; simp)
      · have hV2 : PoV B o c w1 p d np N (P.clean1 y n) w2 := by
          have hoky := HOKY.out
          rw [HC1.out, if_pos h0] at hoky ⊢
          refine PoV.of (PoW.then HO'.out HT'.out hW) ?_ ?_ rfl hoky
          · exact mns_map y.l _ n (clnpg n) (fun g hg => if_neg hg) f _ HFY.out (if_pos HFP.out)
          · rw [List.map_map]
            apply List.map_congr_left
            intro g _
            exact (clnpg n g).symm
        have HN := Lib.hid (HSTEP.out w2 h0 hV2)
        clear h0 hW hV2
        go_wp2
        exact ⟨⟨k + 1, by omega, by go_num, HN.out⟩, by simp [ivOf]; omega⟩
      · have he := HEND.out h7
        have h77 : y.d.wrE = 7 := by rcases wrE_cases y.d with h | h; exact absurd h h7; exact h
        have hV2 : PoV B o c w1 p d np N (P.clean1 y n) w2 := by
          have hoky := HOKY.out
          rw [HC1.out, if_neg h7] at hoky ⊢
          exact PoV.of (PoW.then HO'.out HT'.out hW) rfl rfl rfl hoky
        have HF := Lib.hid (show DoE B o c p d np N (P.flushP L x) (P.flushE L x) w (panE y.d.wrE) w2 from by
          rw [he.1, he.2]
          exact ⟨hV2.pre HB.out, .inr ⟨h7, rfl⟩⟩)
        generalize y.d.wrE = E at *
        clear h7 h77 hW hV2 he
        go_wp2
        exact ⟨rfl, HF.out⟩
    · obtain rfl : k = LL := by omega
      have hL2 : L.take k = L := List.take_of_length_le (by have := HLL.out; omega)
      rw [hL2] at hE HV
      have HF := Lib.hid (show DoE B o c p d np N (P.flushP L x) (P.flushE L x) w (.returned (.tuple #[])) wr from ⟨HV.out.pre HB.out, .inl ⟨hE, rfl⟩⟩)
      clear hE hat hops hP' hT' ho' hL2
      go_wp2
      go_end0
      exact HF.out
end Go.Proofs.YtocepcibcapfbaaGreat
