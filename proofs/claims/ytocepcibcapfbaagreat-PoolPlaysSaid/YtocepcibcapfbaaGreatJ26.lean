/- The pool: use, drop. -/
import Derived.Test.YtocepcibcapfbaaGreatJ25
namespace Go.Proofs.YtocepcibcapfbaaGreat
set_option linter.unusedVariables false
set_option linter.unusedSimpArgs false
set_option linter.unusedSectionVars false
open Go.RowKit
variable [Inhabited AvT]
variable {B o c : Nat} {w : World} {p d np N : Nat} {xd : P.Dv} {M : Nat → Option P.Fr} {od : List Nat} {mb n : Nat} {F : Nat → Nat} {vo : Value} {V : Int → Option Value}

/-- A pool, however its memory lies. -/
def PoX (B o c : Nat) (w : World) (p d np N : Nat) (xd : P.Dv) (M : Nat → Option P.Fr) (od : List Nat) : Prop := ∃ mb n F vo V, PoS B o c w p d np N xd M od mb n F vo V
/-- What a call of the pool's leaves. -/
def PoW (B o c : Nat) (w : World) (p d np N : Nat) (xd : P.Dv) (M : Nat → Option P.Fr) (od : List Nat) (w' : World) : Prop := ∃ o', (o' = o ∨ w.heap.size ≤ o') ∧ PoX B o' c w' p d np N xd M od ∧ TyX (fun k => k = o) B poT w w'
theorem PoX.below {w' : World} (h : PoX B o c w p d np N xd M od) (hb : Below w.heap.size w w') : PoX B o c w' p d np N xd M od := by
  obtain ⟨mb, n, F, vo, V, h⟩ := h
  exact ⟨mb, n, F, vo, V, h.below hb⟩
theorem PoX.ty {w' : World} {C : Nat} {T : Option TypeId → Prop} (h : PoX B o c w p d np N xd M od) (hw : Ty C T w w') (hT : NoPo T) : PoX B o c w' p d np N xd M od := by
  obtain ⟨mb, n, F, vo, V, h⟩ := h
  exact ⟨mb, n, F, vo, V, h.ty hw hT⟩
theorem PoX.lt (h : PoX B o c w p d np N xd M od) : p < w.heap.size ∧ o < w.heap.size := by
  obtain ⟨mb, n, F, vo, V, h⟩ := h
  exact h.lt
/-- One call behind the other. -/
theorem PoW.then {w1 w2 : World} {o1 : Nat} {xd2 : P.Dv} {M2 : Nat → Option P.Fr} {od2 : List Nat} (ho : o1 = o ∨ w.heap.size ≤ o1) (h : TyX (fun k => k = o) B poT w w1) (k : PoW B o1 c w1 p d np N xd2 M2 od2 w2) : PoW B o c w p d np N xd2 M2 od2 w2 := by
  obtain ⟨o', h1, h2, h3⟩ := k
  refine ⟨o', ?_, h2, h.trans h3 (fun i hi e => ?_)⟩
  · have := h.size
    rcases h1 with rfl | h1
    · exact ho
    · exact .inr (by omega)
  · rcases ho with rfl | ho
    · exact e
    · omega
theorem drop_int (od : List Nat) (k : Nat) : keep (fun x => x == (k : Int)) (od.map Int.ofNat) = (od.filter fun m => m != k).map Int.ofNat := by
  unfold keep
  rw [List.filter_map]
  congr 1
  apply List.filter_congr
  intro m _
  simp [Function.comp_def, bne]
  rw [Bool.eq_iff_iff]
  simp
  constructor <;> intro h <;> omega
theorem use1_prd (b : Nat) (k : Nat) (l : List Int) (w : World) (hc : w.cell? ⟨b, 0, none⟩ = some (.int .i64 (k : Int))) : Prd 75 #[.pointer (some ⟨b, 0, none⟩)] l (fun x => x == (k : Int)) w := by
  intro x hx
  clear hx
  obtain ⟨q, hq⟩ : ∃ q, q = (x == (k : Int)) := ⟨_, rfl⟩
  show Calls Tryz.prog 75 #[.int .i64 x, .pointer (some ⟨b, 0, none⟩)] w fun e w' => e = .returned (.bool (x == (k : Int))) ∧ w = w'
  rw [← hq]
  have HQ := Lib.hid hq
  clear hq
  go_enter Tryz.func75, Tryz.ntmps75
  go_wp2
  go_ret
  exact ⟨by rw [HQ.out]; rfl, rfl⟩
theorem drop1_prd (b : Nat) (k : Nat) (l : List Int) (w : World) (hc : w.cell? ⟨b, 0, none⟩ = some (.int .i64 (k : Int))) : Prd 77 #[.pointer (some ⟨b, 0, none⟩)] l (fun x => x == (k : Int)) w := by
  intro x hx
  clear hx
  obtain ⟨q, hq⟩ : ∃ q, q = (x == (k : Int)) := ⟨_, rfl⟩
  show Calls Tryz.prog 77 #[.int .i64 x, .pointer (some ⟨b, 0, none⟩)] w fun e w' => e = .returned (.bool (x == (k : Int))) ∧ w = w'
  rw [← hq]
  have HQ := Lib.hid hq
  clear hq
  go_enter Tryz.func77, Tryz.ntmps77
  go_wp2
  go_ret
  exact ⟨by rw [HQ.out]; rfl, rfl⟩
theorem use1_en (args : Array Value) (w : World) : (callFunc 75 args).run Tryz.prog w = .ok (.enter 75 args) w :=
  enter_of Tryz.func75 (by kernel_rfl) (by kernel_rfl) args w
theorem drop1_en (args : Array Value) (w : World) : (callFunc 77 args).run Tryz.prog w = .ok (.enter 77 args) w :=
  enter_of Tryz.func77 (by kernel_rfl) (by kernel_rfl) args w
theorem tag_keep {w w1 : World} {t : TypeId} {s n n' : Nat} {vo vo' : Value} {l l' : List Value} (h : OV w B t s vo n l) (h' : OV w1 B t s vo' n' l') (hw : Chg (fun k => vo.ownBlock = some k) w w1) (he : vo'.ownBlock = vo.ownBlock) (k : Nat) (hk : k < w.heap.size) : tagA w1 k = tagA w k := by
  by_cases e : vo.ownBlock = some k
  · rw [(OV.tag h' k (by rw [he]; exact e)).1, (OV.tag h k e).1]
  · exact tagA_eq (hw.block k hk e)
theorem intsT : SlT 61 3 1 8 := ⟨Tryz.underlying61, ⟨.int .i64 0, by kernel_rfl, rfl⟩, by omega⟩
/-- DeleteFunc over the order of a pool, by the page. -/
theorem PoS.del (h : PoS B o c w p d np N xd M od mb n F vo V) (fd : FuncId) (hen : ∀ args w, (callFunc fd args).run Tryz.prog w = .ok (.enter fd args) w) (hpr : ∀ (b k : Nat) (l : List Int) (w : World), w.cell? ⟨b, 0, none⟩ = some (.int .i64 (k : Int)) → Prd fd #[.pointer (some ⟨b, 0, none⟩)] l (fun x => x == (k : Int)) w)
    (b k : Nat) (hb : w.heap[b]? = some (.cells #[.int .i64 (k : Int)] 3 (0, 0))) (hbo : b ≠ o) : ∃ a cp, vo = .slice a od.length cp ∧ Calls Tryz.prog 67 #[.slice a od.length cp, .func (.func fd) #[] #[.pointer (some ⟨b, 0, none⟩)]] w fun e w1 =>
      e = .returned (.slice a (od.filter fun m => m != k).length cp) ∧ w1.heap[p]? = some (.cells (poolC d N mb vo) 69 (0, 0)) ∧ PoS B o c (w1.setCell ⟨p, 3, none⟩ (.slice a (od.filter fun m => m != k).length cp)) p d np N xd M (od.filter fun m => m != k) mb n F (.slice a (od.filter fun m => m != k).length cp) V ∧
        TyX (fun k => k = o) B poT w (w1.setCell ⟨p, 3, none⟩ (.slice a (od.filter fun m => m != k).length cp)) := by
  obtain ⟨a, cp, e, hr, hcp, ha, -⟩ := h.ord.form
  refine ⟨a, cp, e, ?_⟩
  have ho := h.ord
  rw [e] at ho
  have hd := delf_any fd #[.pointer (some ⟨b, 0, none⟩)] hen (od.map Int.ofNat) (fun x => x == (k : Int)) B od.length cp a w ho (by have := h.big.2.2.2.1; omega) (fun w' hw => hpr b k _ w' (by
    rw [cell_blk ((hw.block b (lt_of_block hb) (fun e' => hbo (h.own b (by rw [e]; exact e')))).trans hb)]; rfl))
  rw [drop_int, List.length_map] at hd
  refine hd.mono ?_
  rintro e' w1 ⟨rfl, ho1, hc1⟩
  have hl := List.length_filter_le (fun m => m != k) od
  have hpo : (Value.slice a od.length cp).ownBlock ≠ some p := fun e' => by
    have := OV.tag ho p e'
    rw [tagA_cells h.pool] at this
    simp at this
  have hus := h.used (w1 := w1) (o' := o) (vo' := .slice a (od.filter fun m => m != k).length cp) (od' := od.filter fun m => m != k) (by rw [e]; exact hc1) (tag_keep ho ho1 hc1 (by cases a <;> rfl) o h.lt.2) ho1 (fun j hj => h.own j (by rw [e]; cases a <;> exact hj)) (.inl rfl) rfl
    ⟨fun m hm => h.big.2.2.1 m (List.mem_filter.1 hm).1, by have := h.big.2.2.2.1; omega⟩
  exact ⟨rfl, (hc1.block p h.lt.1 hpo).trans h.pool, hus.1, hus.2.1⟩
theorem ivs_snoc (od : List Nat) (k : Nat) : ivs (od.map Int.ofNat) ++ ivs [(k : Int)] = ivs ((od ++ [k]).map Int.ofNat) := by simp [ivs]
/-- The page was appended to the order. -/
theorem PoS.app {w5 : World} {v5 : Value} {k : Nat} (h : PoS B o c w p d np N xd M od mb n F vo V) (ho5 : OV w5 B 3 1 v5 (od.length + 1) (ivs (od.map Int.ofNat) ++ ivs [(k : Int)])) (hg5 : w.grownBy w5 vo.ownBlock) (hat5 : v5.ownBlock = vo.ownBlock ∨ v5.ownBlock = some w.heap.size) (ht5 : Ty B (fun u => u = some 3) w w5) (hk : k < np) (hlen : od.length < 5000) :
    w5.heap[p]? = some (.cells (poolC d N mb vo) 69 (0, 0)) ∧ ∃ o', (o' = o ∨ w.heap.size ≤ o') ∧ PoS B o' c (w5.setCell ⟨p, 3, none⟩ v5) p d np N xd M (od ++ [k]) mb n F v5 V ∧ TyX (fun k => k = o) B poT w (w5.setCell ⟨p, 3, none⟩ v5) := by
  have hc : Chg (fun k => vo.ownBlock = some k) w w5 := ⟨hg5.os, hg5.tape, hg5.output, hg5.size, fun k hk hS => hg5.block k hk (fun e => hS e.symm)⟩
  rw [ivs_snoc] at ho5
  have hl : (od ++ [k]).length = od.length + 1 := by simp
  rw [← hl] at ho5
  have hod : (∀ m ∈ od ++ [k], m < np) ∧ (od ++ [k]).length ≤ 5000 := by
    refine ⟨fun m hm => ?_, by omega⟩
    rcases List.mem_append.1 hm with hm | hm
    · exact h.big.2.2.1 m hm
    · simp at hm; omega
  refine ⟨ht5.cells h.pool (.inr (by decide)), ?_⟩
  rcases hat5 with e | e
  · have hu := h.used (o' := o) (vo' := v5) (od' := od ++ [k]) hc (ht5.tag o h.lt.2) ho5 (fun j hj => h.own j (by rw [← e]; exact hj)) (.inl rfl) rfl hod
    exact ⟨o, .inl rfl, hu.1, hu.2.1⟩
  · have hu := h.used (o' := w.heap.size) (vo' := v5) (od' := od ++ [k]) hc (ht5.tag o h.lt.2) ho5 (fun j hj => by rw [e] at hj; exact (Option.some.inj hj).symm) (.inr ⟨Nat.le_refl _, e⟩) rfl hod
    exact ⟨_, .inr (Nat.le_refl _), hu.1, hu.2.1⟩
set_option maxRecDepth 100000 in
set_option maxHeartbeats 3200000 in
theorem puse_any (h : PoS B o c w p d np N xd M od mb n F vo V) (k : Nat) (hk : k < np) (hlen : od.length < 5000) : Calls Tryz.prog 44 #[.pointer (some ⟨p, 0, none⟩), .int .i64 (k : Int)] w fun e w' =>
    e = .returned (.tuple #[]) ∧ PoW B o c w p d np N xd M ((od.filter fun m => m != k) ++ [k]) w' := by
  have hmf : ∀ (fn : Fn) (first cap : Array Value) (w : World), (Instr.makeFunc fn first cap).run Tryz.prog w = .ok (.func fn first cap) w := fun _ _ _ _ => rfl
  obtain ⟨wa, hwa⟩ : ∃ wa, wa = w.alloc (.cells #[.int .i64 (k : Int)] 3) := ⟨_, rfl⟩
  have hba : Below w.heap.size w wa := by rw [hwa]; exact (Below.refl _ w).alloc (Nat.le_refl _) _
  have kb : wa.heap[w.heap.size]? = some (.cells #[.int .i64 (k : Int)] 3 (0, 0)) := by rw [hwa]; exact alloc_new _ _ _ rfl
  have ha := h.below hba
  have hbo : w.heap.size ≠ o := by have := h.lt; omega
  obtain ⟨a, cp, hvo, hdel⟩ := ha.del _ use1_en use1_prd w.heap.size k kb hbo
  have HD := Lib.hid hdel
  have hl := List.length_filter_le (fun m => m != k) od
  have HLE := Lib.hid (show (od.filter fun m => m != k).length < 5000 by omega)
  have g := cell_blk h.pool
  rw [hvo] at g
  unfold poolC at g
  have HB := Lib.hid hba
  have HKB := Lib.hid kb
  have HBO := Lib.hid hbo
  have HLT := Lib.hid ha.lt
  have hpb : ¬ p = w.heap.size := by have := h.lt; omega
  have hpl := h.lt.1
  generalize (od.filter fun m => m != k) = od2 at *
  obtain ⟨L2, hL2⟩ : ∃ L2, L2 = od2.length := ⟨_, rfl⟩
  rw [← hL2] at HD
  have HL2 := Lib.hid hL2
  clear h ha hdel hvo hba kb hbo hl hL2
  go_enter Tryz.func44, Tryz.ntmps44
  go_wp2_with fail
  rw [← hwa]
  clear hwa
  refine HD.out.mono ?_
  rintro e w1 ⟨rfl, k1, hS2, hx2⟩
  have g1 := cell_blk k1
  have f1 := free_blk k1
  unfold poolC at g1
  have HS2 := Lib.hid hS2
  have HX2 := Lib.hid hx2
  clear k1 hS2 hx2 g
  go_wp2_with fail
  generalize hw2 : World.setCell w1 ⟨p, 3, none⟩ _ = w2 at *
  have g2 := cell_blk HS2.out.pool
  have f2 := free_blk HS2.out.pool
  unfold poolC at g2
  have gb2 := cell_blk (HX2.out.cells HKB.out HBO.out (.inr (by unfold poT devT; decide)))
  have HRL := Lib.hid (show ∀ W : World, RV (W.alloc (.cells #[.int .i64 (k : Int)] 3)) (some ⟨W.heap.size, 0, none⟩) 1 1 (ivs [(k : Int)]) from fun W => RV_lit W 3 1 1 (ivs [(k : Int)]) rfl (by unfold maxLen; omega))
  have hb1 : (L2 + 1) * 8 ≤ 140737488355328 := by have := HLE.out; have := HL2.out; omega
  have hb2 : L2 + 1 ≤ 140737488355328 := by omega
  have HBW := Lib.hid (show ∀ q : Obj, Below w2.heap.size w2 (w2.drew.alloc q) from fun q => below_of_drew ((Below.refl _ w2.drew).alloc (Nat.le_refl _) _))
  have HBZ := Lib.hid (show ∀ q : Obj, B ≤ (w2.drew.alloc q).heap.size from fun q => by have := HS2.out.ot.2; have := HS2.out.lt; have := (HBW.out q).size; omega)
  have HOV := Lib.hid (show OV w2 B 3 1 (.slice a L2 cp) L2 (ivs (od2.map Int.ofNat)) from by rw [HL2.out]; have := HS2.out.ord; rw [HL2.out] at this; exact this)
  have HN2 := Lib.hid (show ∀ q : Obj, ∀ i, (w2.drew.alloc q).cell? ⟨p, i, none⟩ = (poolC d N mb (.slice a L2 cp))[i]? from fun q => cell_blk ((HBW.out q).block p HS2.out.lt.1 ▸ HS2.out.pool))
  have HAPP := Lib.hid (fun (W5 : World) (V5 : Value) (ho5 : OV W5 B 3 1 V5 (L2 + 1) (ivs (od2.map Int.ofNat) ++ ivs [(k : Int)])) (hg5 : (w2.drew.alloc (.cells #[.int .i64 (k : Int)] 3)).grownBy W5 (Value.slice a L2 cp).ownBlock) (hat5 : V5.ownBlock = (Value.slice a L2 cp).ownBlock ∨ V5.ownBlock = some (w2.drew.alloc (.cells #[.int .i64 (k : Int)] 3)).heap.size) (ht5 : Ty B (fun u => u = some 3) (w2.drew.alloc (.cells #[.int .i64 (k : Int)] 3)) W5) =>
    (HS2.out.below (HBW.out _)).app (v5 := V5) (by rw [← HL2.out]; exact ho5) hg5 hat5 ht5 hk HLE.out)
  have hpl2 := HS2.out.lt.1
  have hbl2 : w.heap.size < w2.heap.size := by have := lt_of_block HKB.out; have := HX2.out.size; omega
  clear f1 g1 hw2
  go_region_law ((refine step_appT intsT _ rfl _ _ rfl B (.slice a L2 cp) L2 (ivs (od2.map Int.ofNat)) rfl (by exact HOV.out.alloc _) (some ⟨w2.heap.size, 0, none⟩) 1 1 (ivs [(k : Int)]) rfl (by exact HRL.out w2.drew) (ivs_one _) hb1 hb2 (HBZ.out _) ?_; intro v5 w5 ho5 hg5 hat5 ht5; obtain ⟨kp5, o', ho', hP5, hx5⟩ := HAPP.out w5 v5 ho5 hg5 hat5 ht5; have g5 := cell_blk kp5; have f5 := free_blk kp5; unfold poolC at g5; have HP5 := Lib.hid hP5; have HX5 := Lib.hid hx5; have HO5 := Lib.hid ho'; obtain ⟨a5, c5, hv5, -⟩ := ho5.form; subst hv5; clear ho5 hg5 hat5 ht5 kp5 hP5 hx5 ho'))
  all_goals
    go_wp2
    go_end0
    refine ⟨rfl, o', ?_, ⟨mb, n, F, _, V, HP5.out⟩, ?_⟩
    · rcases HO5.out with h | h
      · exact .inl h
      · have h1 := (HBW.out (.cells #[.int .i64 (k : Int)] 3)).size
        have h2 := HX2.out.size
        have h3 := HB.out.size
        exact .inr (by omega)
    · exact (((Ty.of_below HB.out).x.trans HX2.out (fun _ _ h => h)).trans (Ty.of_below (HBW.out (.cells #[.int .i64 (k : Int)] 3))).x (fun _ _ h => h)).trans HX5.out (fun _ _ h => h)
end Go.Proofs.YtocepcibcapfbaaGreat
