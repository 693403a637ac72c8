/- The pool: drop, clean. -/
import Derived.Test.YtocepcibcapfbaaGreatJ26
namespace Go.Proofs.YtocepcibcapfbaaGreat
set_option linter.unusedVariables false
set_option linter.unusedSimpArgs false
set_option linter.unusedSectionVars false
open Go.RowKit
variable [Inhabited AvT]
variable {B o c : Nat} {w : World} {p d np N : Nat} {xd : P.Dv} {M : Nat → Option P.Fr} {od : List Nat} {mb n : Nat} {F : Nat → Nat} {vo : Value} {V : Int → Option Value}

theorem wpList_dropI (w : World) {ops : Array Oper} {rest : List Oper} {o : Oper} {a : Act} {Q : Exit → Act → World → Prop} (hg : o.guard = none) (m x : Operand)
    (ho : o.op = .call { callee := .builtin .delete, args := #[m, x], argTypes := #[67, 3] }) (b n : Nat) (V : Int → Option Value) (hm : a.eval m = .map (some b)) (h : Mi w b n V) (k : Int) (hk : inI k) (hx : a.eval x = .int .i64 k)
    (hK : ∀ w', Mi w' b n (updI V k none) → w.grownBy w' (some b) → wpList Tryz.prog ops Q rest (a.put o.dst (.tuple #[])) w') : wpList Tryz.prog ops Q (o :: rest) a w := by
  refine wpList_plain hg fun K hK2 => ?_
  obtain ⟨w', hrun, r1, r2⟩ := h.drop k hk o.type
  unfold Oper.wp execOp
  simp only [ho, resolve, invoke, builtin, Sem.run_bind, Sem.run_pure, Result.andThen_ok, List.map_toArray, List.map_cons, List.map_nil, hm, hx, hrun]
  exact hK2 _ _ (hK w' r1 r2)
/-- A page less in the map. -/
def MnO (M : Nat → Option P.Fr) (k : Nat) : Nat → Option P.Fr := fun m => if m = k then none else M m
theorem PoS.dropd {w' : World} (h : PoS B o c w p d np N xd M od mb n F vo V) (k : Nat) (hm : Mi w' mb n (updI V (k : Int) none)) (hg : w.grownBy w' (some mb)) : PoS B o c w' p d np N xd (MnO M k) od mb n F vo (updI V (k : Int) none) ∧ Ty B poT w w' := by
  refine h.mapd hg hm h.cap (fun j => ?_) (fun j f hj => ?_) (fun i j f g hi hj e => ?_)
  · unfold updI MnO
    rw [h.look j]
    by_cases hjk : j = (k : Int)
    · subst hjk
      rw [if_pos rfl, if_pos (by omega), if_pos (by omega)]
      rfl
    · rw [if_neg hjk]
      by_cases h0 : 0 ≤ j
      · rw [if_pos h0, if_pos h0, if_neg (by omega)]
      · rw [if_neg h0, if_neg h0]
  · unfold MnO at hj
    by_cases e : j = k
    · rw [if_pos e] at hj; cases hj
    · rw [if_neg e] at hj; exact h.fr j f hj
  · unfold MnO at hi hj
    by_cases e1 : i = k
    · rw [if_pos e1] at hi; cases hi
    by_cases e2 : j = k
    · rw [if_pos e2] at hj; cases hj
    rw [if_neg e1] at hi
    rw [if_neg e2] at hj
    exact h.inj i j f g hi hj e
set_option maxRecDepth 100000 in
set_option maxHeartbeats 3200000 in
theorem pdrop_any (h : PoS B o c w p d np N xd M od mb n F vo V) (k : Nat) (hk : k < np) : Calls Tryz.prog 55 #[.pointer (some ⟨p, 0, none⟩), .int .i64 (k : Int)] w fun e w' =>
    e = .returned (.tuple #[]) ∧ PoW B o c w p d np N xd (MnO M k) (od.filter fun m => m != k) w' := by
  have hmf : ∀ (fn : Fn) (first cap : Array Value) (w : World), (Instr.makeFunc fn first cap).run Tryz.prog w = .ok (.func fn first cap) w := fun _ _ _ _ => rfl
  obtain ⟨wa, hwa⟩ : ∃ wa, wa = w.alloc (.cells #[.int .i64 (k : Int)] 3) := ⟨_, rfl⟩
  have hba : Below w.heap.size w wa := by rw [hwa]; exact (Below.refl _ w).alloc (Nat.le_refl _) _
  have kb : wa.heap[w.heap.size]? = some (.cells #[.int .i64 (k : Int)] 3 (0, 0)) := by rw [hwa]; exact alloc_new _ _ _ rfl
  have ha := h.below hba
  have hbo : w.heap.size ≠ o := by have := h.lt; omega
  have g := cell_blk ha.pool
  have gb := cell_blk kb
  unfold poolC at g
  have HA := Lib.hid ha
  have HB := Lib.hid hba
  have HKB := Lib.hid kb
  have HBO := Lib.hid hbo
  have hpb : ¬ p = w.heap.size := by have := h.lt; omega
  have hpl := h.lt.1
  have hkin : inI (k : Int) := by have := h.big.2.2.2.2; unfold inI; omega
  have HKI := Lib.hid hkin
  obtain ⟨a, cp, hvo, -⟩ := h.ord.form
  have HVO := Lib.hid hvo
  clear h ha hba kb hbo hkin hvo
  go_enter Tryz.func55, Tryz.ntmps55
  go_wp2_with fail
  rw [← hwa]
  clear hwa
  go_still_tail 5, (by kernel_rfl)
  change wpList _ _ _ _ _ wa.drew
  clear g gb
  go_wp2_with (at_delete; refine wpList_dropI _ rfl _ _ rfl mb n V rfl HA.out.map (k : Int) HKI.out rfl ?_)
  intro w1 hm1 hg1
  have hd := (HA.out.below (below_of_drew (Below.refl _ wa.drew) : Below wa.heap.size wa wa.drew)).dropd k hm1 hg1
  obtain ⟨h1, ht1⟩ := hd
  have kb1 := ht1.cells HKB.out (.inr (by unfold poT devT; decide))
  obtain ⟨a', cp', hvo', hdel⟩ := h1.del _ drop1_en drop1_prd w.heap.size k kb1 HBO.out
  have g1 := cell_blk h1.pool
  rw [hvo'] at g1
  unfold poolC at g1
  have HD := Lib.hid hdel
  have HT1 := Lib.hid ht1
  clear h1 ht1 kb1 hdel hvo' hm1 hg1
  obtain ⟨L2, hL2⟩ : ∃ L2, L2 = (od.filter fun m => m != k).length := ⟨_, rfl⟩
  rw [← hL2] at HD
  clear hL2
  go_wp2_with fail
  refine HD.out.mono ?_
  rintro e w2 ⟨rfl, k2, hS2, hx2⟩
  have g2 := cell_blk k2
  have f2 := free_blk k2
  unfold poolC at g2
  have HS2 := Lib.hid hS2
  have HX2 := Lib.hid hx2
  clear k2 hS2 hx2 g1
  go_wp2
  go_end0
  exact ⟨rfl, o, .inl rfl, ⟨mb, n, F, _, _, HS2.out⟩, ((Ty.of_below HB.out).x.trans (((Ty.refl B poT wa).drew.trans HT1.out).x) (fun _ _ h => h)).trans HX2.out (fun _ _ h => h)⟩
/-- A page's frame is another. -/
def MnS (M : Nat → Option P.Fr) (k : Nat) (f : P.Fr) : Nat → Option P.Fr := fun m => if m = k then some f else M m
theorem PoS.look1 (h : PoS B o c w p d np N xd M od mb n F vo V) (k : Nat) (hk : k < np) (f : P.Fr) (hf : M k = some f) : (Instr.lookup 67 (.map (some mb)) (.int .i64 (k : Int)) false).run Tryz.prog w = .ok (.pointer (some ⟨F k, 0, none⟩)) w := by
  have hk2 : inI (k : Int) := by have := h.big.2.2.2.2; unfold inI; omega
  rw [h.map.look (k : Int) hk2, h.look (k : Int), if_pos (by omega), Int.toNat_natCast, hf]
  rfl
theorem PoS.look0 (h : PoS B o c w p d np N xd M od mb n F vo V) (k : Int) (hk : inI k) (hf : k < 0 ∨ M k.toNat = none) : (Instr.lookup 67 (.map (some mb)) (.int .i64 k) false).run Tryz.prog w = .ok (.pointer none) w := by
  rw [h.map.look k hk, h.look k]
  by_cases h0 : 0 ≤ k
  · rw [if_pos h0, hf.resolve_left (by omega)]
    rfl
  · rw [if_neg h0]
    rfl
/-- How clean ends. -/
def ClnE (B o c : Nat) (p d np N : Nat) (xd : P.Dv) (M : Nat → Option P.Fr) (od : List Nat) (k : Nat) (f : P.Fr) (w : World) (e : Ending) (w' : World) : Prop :=
  (f.dirty = false ∧ e = .returned (.tuple #[]) ∧ w = w') ∨ (f.dirty = true ∧ xd.wrE = 0 ∧ e = .returned (.tuple #[]) ∧ PoW B o c w p d np N (xd.wrD k f.b) (MnS M k { f with dirty := false }) od w') ∨
  (f.dirty = true ∧ xd.wrE ≠ 0 ∧ e = panE xd.wrE ∧ PoW B o c w p d np N (xd.wrD k f.b) M od w')
theorem wrE_cases (x : P.Dv) : x.wrE = 0 ∨ x.wrE = 7 := by unfold P.Dv.wrE; split <;> simp
set_option maxRecDepth 100000 in
set_option maxHeartbeats 3200000 in
theorem pclean_any (h : PoS B o c w p d np N xd M od mb n F vo V) (k : Nat) (f : P.Fr) (hf : M k = some f) (hb : f.b.length = 256) (hop : xd.ops < 1000000) : Calls Tryz.prog 58 #[.pointer (some ⟨p, 0, none⟩), .int .i64 (k : Int)] w (ClnE B o c p d np N xd M od k f w) := by
  obtain ⟨hfp, hfr, hk, hpc⟩ := h.fr k f hf
  have hlk := h.look1 k hk f hf
  obtain ⟨a, m, cp, hfb, hrb, hBf, hbl⟩ := hfr
  have g := cell_blk h.pool
  unfold poolC at g
  have gf := cell_blk hfb
  unfold frC at gf
  have H := Lib.hid h
  have HF := Lib.hid hf
  have HFB := Lib.hid hfb
  have HRB := Lib.hid hrb
  have HLK := Lib.hid hlk
  have HB := Lib.hid hb
  have HK := Lib.hid hk
  have HBL := Lib.hid (And.intro hfp (And.intro hpc (And.intro hBf hbl)))
  rcases hdy : f.dirty with _ | _
  · rw [hdy] at gf
    have HDY := Lib.hid hdy
    clear h hf hfb hrb hb hdy hfp hpc
    go_enter Tryz.func58, Tryz.ntmps58
    go_wp2
    go_end0
    exact .inl ⟨HDY.out, rfl, rfl⟩
  · rw [hdy] at gf
    have HDY := Lib.hid hdy
    have HW := Lib.hid (show ∀ W, Below w.heap.size w W → Calls Tryz.prog 78 #[.pointer (some ⟨d, 0, none⟩), .int .i64 (k : Int), .slice a m cp] W (WrF B d np xd (k : Int) f.b W) from fun W hW => dwriteF B d np xd (k : Int) a m cp f.b W (h.dev.below hW) (hrb.below hW) hop)
    clear h hf hfb hrb hb hdy hfp hpc hop
    go_enter Tryz.func58, Tryz.ntmps58
    go_wp2_with fail
    go_still_tail 9, (by kernel_rfl)
    change wpList _ _ _ _ _ w.drew
    go_wp2_with fail
    have hdr : Below w.heap.size w w.drew := below_of_drew (Below.refl _ _)
    refine (HW.out w.drew hdr).mono ?_
    rintro e w1 (⟨hno, -, -⟩ | ⟨-, hD, hT, rfl⟩)
    · exact absurd ⟨⟨by omega, by have := HK.out; omega⟩, HB.out⟩ hno
    have h1 := (H.out.below hdr).devd hT hD
    rw [Int.toNat_natCast] at h1 hD
    have hT1 : TyX (fun k => k = o) B poT w w1 := (Ty.of_below hdr).x.trans ((hT.mono (Nat.le_refl _) (fun t h => .inl h)).x) (fun _ _ h => h)
    have hfb1 := hT.cells (show w.drew.heap[F k]? = _ from HFB.out) (.inr (by unfold devT; decide))
    have hrb1 := (HRB.out.below hdr).ty hT (by unfold devT; decide)
    have H1 := Lib.hid h1
    have HT1 := Lib.hid hT1
    have HFB1 := Lib.hid hfb1
    have HRB1 := Lib.hid hrb1
    rw [HDY.out] at hfb1
    have gf1 := cell_blk hfb1
    have ff1 := free_blk hfb1
    unfold frC at gf1
    clear hD hT h1 hT1 hfb1 hrb1 hdr
    rcases wrE_cases xd with e0 | e7
    · have HE := Lib.hid e0
      rw [e0]
      clear e0
      go_wp2_with fail
      refine (mustp_ok w1).mono ?_
      rintro e w2 ⟨rfl, rfl⟩
      have hfin : PoW B o c w p d np N (xd.wrD k f.b) (MnS M k { f with dirty := false }) od (w1.setCell ⟨F k, 1, none⟩ (.bool false)) := by
        have hx := H1.out.framed (f' := { f with dirty := false }) (i := 1) (u := .bool false) HF.out rfl HBL.out.1 ⟨a, m, cp, by rw [blk_setCell HFB1.out]; simp [frC, HDY.out], (HRB1.out.ty ((Ty.refl (F k) (fun t => t = some 77) w1).setCell ⟨F k, 1, none⟩ (.bool false) (.inr ⟨Nat.le_refl _, _, tagA_cells HFB1.out, rfl⟩)) (by decide)), HBL.out.2.2.1, HBL.out.2.2.2⟩ HBL.out.2.1
        exact ⟨o, .inl rfl, ⟨mb, n, F, vo, V, hx.1⟩, HT1.out.trans hx.2.x (fun _ _ h => h)⟩
      have HFI := Lib.hid hfin
      clear hfin
      go_wp2
      go_end0
      exact .inr (.inl ⟨HDY.out, HE.out, rfl, HFI.out⟩)
    · have HE := Lib.hid e7
      rw [e7]
      clear e7
      go_wp2_with fail
      refine (mustp_no 7 (by decide) w1).mono ?_
      rintro e w2 ⟨rfl, hb2⟩
      have hfin : PoW B o c w p d np N (xd.wrD k f.b) M od w2 := ⟨o, .inl rfl, ⟨mb, n, F, vo, V, H1.out.below hb2⟩, HT1.out.trans (Ty.of_below hb2).x (fun _ _ h => h)⟩
      have HFI := Lib.hid hfin
      clear hfin hb2
      go_wp2
      exact ⟨rfl, .inr (.inr ⟨HDY.out, by rw [HE.out]; decide, by rw [HE.out], HFI.out⟩)⟩
end Go.Proofs.YtocepcibcapfbaaGreat
