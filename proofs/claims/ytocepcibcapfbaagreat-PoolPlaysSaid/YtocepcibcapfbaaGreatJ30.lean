/- The pool: leave, room. -/
import Derived.Test.YtocepcibcapfbaaGreatJ28
import Derived.Test.YtocepcibcapfbaaGreatJ29
namespace Go.Proofs.YtocepcibcapfbaaGreat
set_option linter.unusedVariables false
set_option linter.unusedSimpArgs false
set_option linter.unusedSectionVars false
open Go.RowKit
variable [Inhabited AvT]
variable {B o c : Nat} {w : World} {p d np N : Nat} {x : P.Po}

/-- Block p is the pool x. -/
def PoIs (B o c : Nat) (w : World) (p d np N : Nat) (x : P.Po) : Prop := PoX B o c w p d np N x.d (P.at? x.l) (x.l.map (·.pg)) ∧ x.ok N np
/-- What a call leaves. -/
def PoV (B o c : Nat) (w : World) (p d np N : Nat) (x : P.Po) (w' : World) : Prop := ∃ o', (o' = o ∨ w.heap.size ≤ o') ∧ PoIs B o' c w' p d np N x ∧ TyX (fun k => k = o) B poT w w'
theorem PoIs.below {w' : World} (h : PoIs B o c w p d np N x) (hb : Below w.heap.size w w') : PoIs B o c w' p d np N x := ⟨h.1.below hb, h.2⟩
theorem PoIs.lt (h : PoIs B o c w p d np N x) : p < w.heap.size ∧ o < w.heap.size := h.1.lt
theorem PoIs.self {w' : World} (h : PoIs B o c w p d np N x) (hb : Below w.heap.size w w') : PoV B o c w p d np N x w' := ⟨o, .inl rfl, h.below hb, (Ty.of_below hb).x⟩
/-- A page less, over. -/
theorem mno_off (l : List P.Fr) (k : Nat) : MnO (P.at? l) k = P.at? (P.off l k) := by
  funext m
  unfold MnO
  by_cases e : m = k
  · rw [if_pos e, e, P.at_off_self]
  · rw [if_neg e, P.at_off_ne l k m e]
theorem mno_mns (M : Nat → Option P.Fr) (k : Nat) (f : P.Fr) : MnO (MnS M k f) k = MnO M k := by
  funext m
  unfold MnO MnS
  by_cases e : m = k
  · rw [if_pos e, if_pos e]
  · rw [if_neg e, if_neg e, if_neg e]
theorem PoV.of {w' : World} {xd' : P.Dv} {M' : Nat → Option P.Fr} {od' : List Nat} (h : PoW B o c w p d np N xd' M' od' w') (hM : M' = P.at? x.l) (ho : od' = x.l.map (·.pg)) (hd : xd' = x.d) (hok : x.ok N np) : PoV B o c w p d np N x w' := by
  subst hM ho hd
  obtain ⟨o', h1, h2, h3⟩ := h
  exact ⟨o', h1, ⟨h2, hok⟩, h3⟩
theorem PoV.then {w1 w2 : World} {o1 : Nat} (ho : o1 = o ∨ w.heap.size ≤ o1) (h : TyX (fun k => k = o) B poT w w1) (k : PoV B o1 c w1 p d np N x w2) : PoV B o c w p d np N x w2 := by
  obtain ⟨o', h1, h2, h3⟩ := k
  obtain ⟨o'', k1, k2, k3⟩ := PoW.then (xd2 := x.d) (M2 := P.at? x.l) (od2 := x.l.map (·.pg)) ho h ⟨o', h1, h2.1, h3⟩
  refine ⟨o', ?_, h2, h.trans h3 (fun i hi e => ?_)⟩
  · have := h.size
    rcases h1 with rfl | h1
    · exact ho
    · exact .inr (by omega)
  · rcases ho with rfl | ho
    · exact e
    · omega
/-- How leave ends. -/
def LvE (B o c : Nat) (p d np N : Nat) (x : P.Po) (w : World) (e : Ending) (w' : World) : Prop :=
  (x.oneE = 6 ∧ e = .returned (.bool false) ∧ Below w.heap.size w w') ∨ (x.oneE = 0 ∧ e = .returned (.bool true) ∧ PoV B o c w p d np N x.oneP w') ∨ (x.oneE = 7 ∧ e = panE 7 ∧ PoV B o c w p d np N x.oneP w')
set_option maxRecDepth 100000 in
set_option maxHeartbeats 3200000 in
theorem pleave_any (h : PoIs B o c w p d np N x) (hop : x.d.ops < 1000000) : Calls Tryz.prog 61 #[.pointer (some ⟨p, 0, none⟩)] w (LvE B o c p d np N x w) := by
  obtain ⟨wa, hwa⟩ : ∃ wa, wa = w.alloc (.cells #[.pointer (some ⟨p, 0, none⟩)] 32) := ⟨_, rfl⟩
  have hba : Below w.heap.size w wa := by rw [hwa]; exact (Below.refl _ w).alloc (Nat.le_refl _) _
  have kb : wa.heap[w.heap.size]? = some (.cells #[.pointer (some ⟨p, 0, none⟩)] 32 (0, 0)) := by rw [hwa]; exact alloc_new _ _ _ rfl
  have hOK := h.2
  have hone := P.one_ok hOK
  obtain ⟨⟨mb, n, F, vo, V, ha⟩, -⟩ := h.below hba
  have H1 := Lib.hid (old1_any ha hOK.1 w.heap.size (by rw [cell_blk kb]; rfl))
  have HO := Lib.hid (old_any w p)
  have HA := Lib.hid ha
  have HB := Lib.hid hba
  have HOK := Lib.hid hOK
  have HON := Lib.hid hone
  have HOP := Lib.hid hop
  rcases hv : P.victim x.l with _ | f
  · have hE : x.oneE = 6 := by unfold P.Po.oneE; rw [hv]
    have hvi : vicI x.l = -1 := by unfold vicI; rw [hv]
    rw [hvi] at H1
    have HE := Lib.hid (show LvE B o c p d np N x w (.returned (.bool false)) wa from .inl ⟨hE, rfl, hba⟩)
    clear h hop ha hba kb hOK hone hv hE hvi
    go_enter Tryz.func61, Tryz.ntmps61
    go_wp2_with fail
    refine HO.out.mono ?_
    rintro e w1 ⟨rfl, rfl⟩
    rw [← hwa]
    clear hwa
    go_wp2_with fail
    refine H1.out.mono ?_
    rintro e w1 ⟨rfl, rfl⟩
    go_wp2
    go_ret
    exact HE.out
  · have hfm := P.victim_some hv
    have hat : P.at? x.l f.pg = some f := P.at_mem hOK.1 hfm.1
    have hfo := hOK.2.1 f hfm.1
    have hvi : vicI x.l = (f.pg : Int) := by unfold vicI; rw [hv]
    rw [hvi] at H1
    have HC := Lib.hid (pclean_any ha f.pg f hat hfo.2 hop)
    have HD := Lib.hid (fun (w1 : World) (o1 : Nat) (xd1 : P.Dv) (M1 : Nat → Option P.Fr) (h : PoX B o1 c w1 p d np N xd1 M1 (x.l.map (·.pg))) => (show Calls Tryz.prog 55 #[.pointer (some ⟨p, 0, none⟩), .int .i64 (f.pg : Int)] w1 (fun e w' => e = .returned (.tuple #[]) ∧ PoW B o1 c w1 p d np N xd1 (MnO M1 f.pg) ((x.l.map (·.pg)).filter fun m => m != f.pg) w') from by
      obtain ⟨mb, n, F, vo, V, h⟩ := h
      exact pdrop_any h f.pg hfo.1))
    have HV := Lib.hid hv
    have i0 : (0 : Int) ≤ (f.pg : Int) := by omega
    have i1 : ¬ (f.pg : Int) < 0 := by omega
    clear h hop ha hba kb hOK hone hv hvi hfm hat hfo
    go_enter Tryz.func61, Tryz.ntmps61
    go_wp2_with fail
    refine HO.out.mono ?_
    rintro e w1 ⟨rfl, rfl⟩
    rw [← hwa]
    clear hwa
    go_wp2_with fail
    refine H1.out.mono ?_
    rintro e w1 ⟨rfl, rfl⟩
    go_wp2_with fail
    refine HC.out.mono ?_
    rintro e w1 hC
    have hTX := (Ty.of_below (B := B) (T := poT) HB.out).x (X := fun k => k = o)
    have hoff : (x.l.map (·.pg)).filter (fun m => m != f.pg) = (P.off x.l f.pg).map (·.pg) := (P.off_map x.l f.pg).symm
    rcases hC with ⟨c1, rfl, rfl⟩ | ⟨c1, c2, rfl, o1, c3, c4, c5⟩ | ⟨c1, c2, rfl, c3⟩
    · have HD1 := Lib.hid (HD.out wa o x.d (P.at? x.l) ⟨mb, n, F, vo, V, HA.out⟩)
      have hE : x.oneE = 0 ∧ x.oneP = ⟨x.d, P.off x.l f.pg⟩ := by unfold P.Po.oneE P.Po.oneP; rw [HV.out]; simp [c1]
      have HE := Lib.hid hE
      have HTX := Lib.hid hTX
      have HOF := Lib.hid hoff
      clear c1 hE hTX hoff
      go_wp2_with fail
      refine HD1.out.mono ?_
      rintro e w2 ⟨rfl, hW⟩
      have hok := HON.out
      rw [HE.out.2] at hok
      have hfin : PoV B o c w p d np N x.oneP w2 := by
        rw [HE.out.2]
        exact PoV.of (PoW.then (.inl rfl) HTX.out hW) (mno_off _ _) HOF.out rfl hok
      have HFI := Lib.hid hfin
      clear hW hok hfin
      go_wp2
      go_ret
      exact .inr (.inl ⟨HE.out.1, rfl, HFI.out⟩)
    · have HD1 := Lib.hid (HD.out w1 o1 _ _ c4)
      have hE : x.oneE = 0 ∧ x.oneP = ⟨x.d.wrD f.pg f.b, P.off x.l f.pg⟩ := by unfold P.Po.oneE P.Po.oneP; rw [HV.out]; simp [c1, c2]
      have HE := Lib.hid hE
      have HTX := Lib.hid (hTX.trans c5 (fun _ _ h => h))
      have HOF := Lib.hid hoff
      have HO1 := Lib.hid (show o1 = o ∨ w.heap.size ≤ o1 from by
        rcases c3 with h | h
        · exact .inl h
        · have := HB.out.size; exact .inr (by omega))
      clear c1 c2 c3 c4 c5 hE hTX hoff
      go_wp2_with fail
      refine HD1.out.mono ?_
      rintro e w2 ⟨rfl, hW⟩
      have hok := HON.out
      rw [HE.out.2] at hok
      have hfin : PoV B o c w p d np N x.oneP w2 := by
        rw [HE.out.2]
        refine PoV.of (PoW.then HO1.out HTX.out hW) ?_ HOF.out rfl hok
        rw [mno_mns]
        exact mno_off _ _
      have HFI := Lib.hid hfin
      clear hW hok hfin
      go_wp2
      go_ret
      exact .inr (.inl ⟨HE.out.1, rfl, HFI.out⟩)
    · have h7 : x.d.wrE = 7 := by rcases wrE_cases x.d with h | h; exact absurd h c2; exact h
      have hE : x.oneE = 7 ∧ x.oneP = ⟨x.d.wrD f.pg f.b, x.l⟩ := by unfold P.Po.oneE P.Po.oneP; rw [HV.out]; simp [c1, c2, h7]
      have hok := HON.out
      rw [hE.2] at hok
      have hfin : PoV B o c w p d np N x.oneP w1 := by
        rw [hE.2]
        exact PoV.of (PoW.then (.inl rfl) hTX c3) rfl rfl rfl hok
      have HFI := Lib.hid (And.intro hE.1 hfin)
      rw [h7]
      clear c1 c2 c3 h7 hE hok hfin hTX hoff
      go_wp2
      exact ⟨rfl, .inr (.inr ⟨HFI.out.1, rfl, HFI.out.2⟩)⟩
end Go.Proofs.YtocepcibcapfbaaGreat
