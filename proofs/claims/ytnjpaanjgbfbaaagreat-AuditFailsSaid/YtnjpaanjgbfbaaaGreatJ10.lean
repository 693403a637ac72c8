/- Maps from integers to values, as functions. -/
import Derived.IntWalk
import Derived.Deep.DeepCutAuto
import Derived.Test.YtnjpaanjgbfbaaaGreatJ09
import Derived.Maps.OwnSet
import Derived.Maps.Views
import Derived.Deep.OwnRows
import Derived.Laws.CopyOwn
import Derived.Test.YtnjpaanjgbfbaaaGreatJ06
import Derived.Defers
import Derived.Recover
import Derived.BigRegion
import Derived.BigQuiet
import Derived.Deep.QuietTactic
import Derived.Deep.RegionHeld3
import Derived.Deep.RegionLaw
import Derived.Deep.RegionWith
import Derived.Outline
import Derived.RegionTactic
import Derived.StillTailTactics
namespace Go.Proofs.YtnjpaanjgbfbaaaGreat
set_option linter.unusedVariables false
set_option linter.unusedSimpArgs false
open Go.RowKit Go.Maps

def mhv : Value → Option (DataW Value × List MemPlace) := fun v => some (.held v, [])
/-- A map type: its key's kind, its element and that one's zero. -/
structure MpT (mt kt et : TypeId) (q : IntKind) (z : Value) : Prop where
  key : Tryz.prog.underlying kt = some (.int q)
  und : Tryz.prog.underlying mt = some (.map kt et)
  zero : ∀ w : World, (zeroValue et).run Tryz.prog w = .ok z w
def mkl (q : IntKind) (k : Int) : Lit := .int q k
def mupd (V : Int → Option Value) (k : Int) (x : Option Value) : Int → Option Value := fun j => if j = k then x else V j
def MSays (q : IntKind) (D : DataW Value) (k : Int) : Option Value → Prop
  | none => has D (mkl q k) = false ∧ ∀ z, D.atKey (mkl q k) z = z
  | some v => has D (mkl q k) = true ∧ ∀ z, D.atKey (mkl q k) z = .held v
/-- Block b is a map, of at most n entries, that has V. -/
def Mp (kt : TypeId) (q : IntKind) (w : World) (b n : Nat) (V : Int → Option Value) : Prop := ∃ D : DataW Value, w.ownsMap Tryz.prog kt mhv b n D ∧ ∀ k, (mkl q k).wf = true → MSays q D k (V k)
section
variable {mt kt et : TypeId} {q : IntKind} {z : Value}
theorem Mp.made (w : World) : Mp kt q (w.alloc (.map #[] 0)) w.heap.size 0 (fun _ => none) := ⟨_, World.ownsMap_made w _ _ _, fun k hk => ⟨rfl, fun z => rfl⟩⟩
theorem Mp.kept {w w' : World} {b n : Nat} {V : Int → Option Value} (h : Mp kt q w b n V) {row : Option Nat} (hg : w.grownBy w' row) (hne : some b ≠ row) : Mp kt q w' b n V := by obtain ⟨D, h, h2⟩ := h; exact ⟨D, h.kept hg hne, h2⟩
theorem Mp.below {w w' : World} {b n : Nat} {V : Int → Option Value} (h : Mp kt q w b n V) (hb : Below w.heap.size w w') : Mp kt q w' b n V := h.kept (row := none) ⟨hb.os, hb.tape, hb.output, hb.size, fun i hi _ => hb.block i hi⟩ (by simp)
theorem Mp.obj {w : World} {b n : Nat} {V : Int → Option Value} (h : Mp kt q w b n V) : ∃ es clock, w.heap[b]? = some (.map es clock) := by obtain ⟨D, ⟨es, clock, hb, -⟩, -⟩ := h; exact ⟨es, clock, hb⟩
theorem Mp.chg {S : Nat → Prop} {w w' : World} {b n : Nat} {V : Int → Option Value} (h : Mp kt q w b n V) (hc : Chg S w w') (hS : ¬ S b) : Mp kt q w' b n V := by
  obtain ⟨D, ⟨es, clock, hb, hr⟩, h2⟩ := h
  exact ⟨D, ⟨es, clock, by rw [hc.block b (lt_of_block hb) hS]; exact hb, hr⟩, h2⟩
theorem Mp.ext {w : World} {b n : Nat} {V V' : Int → Option Value} (h : Mp kt q w b n V) (hV : ∀ k, V k = V' k) : Mp kt q w b n V' := by
  obtain rfl : V = V' := funext hV
  exact h
theorem Mp.look (T : MpT mt kt et q z) {w : World} {b n : Nat} {V : Int → Option Value} (h : Mp kt q w b n V) (k : Int) (hk : (mkl q k).wf = true) :
    (Instr.lookup mt (.map (some b)) (.int q k) true).run Tryz.prog w = .ok (.tuple #[(V k).getD z, .bool (V k).isSome]) w := by
  obtain ⟨D, h, hs⟩ := h
  obtain ⟨v, ps, hrun, hv'⟩ := h.look_ok (int_keyed T.key) T.und (T.zero w) (zd := .held z) (zp := []) rfl (keyOf_int_mk T.key hk)
  have hsk := hs k hk
  rw [hrun]
  rcases hV : V k with _ | x
  · rw [hV] at hsk
    obtain ⟨h1, h2⟩ := hsk
    unfold mkl at h1 h2
    rw [h2] at hv'
    simp only [mhv, Option.some.injEq, Prod.mk.injEq, DataW.held.injEq] at hv'
    rw [h1, hv'.1]
    rfl
  · rw [hV] at hsk
    obtain ⟨h1, h2⟩ := hsk
    unfold mkl at h1 h2
    rw [h2] at hv'
    simp only [mhv, Option.some.injEq, Prod.mk.injEq, DataW.held.injEq] at hv'
    rw [h1, hv'.1]
    rfl
theorem Mp.look1 (T : MpT mt kt et q z) {w : World} {b n : Nat} {V : Int → Option Value} (h : Mp kt q w b n V) (k : Int) (hk : (mkl q k).wf = true) :
    (Instr.lookup mt (.map (some b)) (.int q k) false).run Tryz.prog w = .ok ((V k).getD z) w := by
  obtain ⟨D, h, hs⟩ := h
  obtain ⟨v, ps, hrun, hv'⟩ := h.lookup (int_keyed T.key) T.und (T.zero w) (zd := .held z) (zp := []) rfl (keyOf_int_mk T.key hk)
  have hsk := hs k hk
  rw [hrun]
  rcases hV : V k with _ | x
  · rw [hV] at hsk
    obtain ⟨h1, h2⟩ := hsk
    unfold mkl at h1 h2
    rw [h2] at hv'
    simp only [mhv, Option.some.injEq, Prod.mk.injEq, DataW.held.injEq] at hv'
    rw [hv'.1]
    rfl
  · rw [hV] at hsk
    obtain ⟨h1, h2⟩ := hsk
    unfold mkl at h1 h2
    rw [h2] at hv'
    simp only [mhv, Option.some.injEq, Prod.mk.injEq, DataW.held.injEq] at hv'
    rw [hv'.1]
    rfl
theorem mkl_ne {j k : Int} (h : j ≠ k) : mkl q j ≠ mkl q k := by
  unfold mkl
  intro e
  injection e with e1 e2
  exact h e2
theorem Mp.store (T : MpT mt kt et q z) {w : World} {b n : Nat} {V : Int → Option Value} (h : Mp kt q w b n V) (k : Int) (hk : (mkl q k).wf = true) (hn : n < maxLen) (v : Value) :
    ∃ w', (Instr.mapUpdate mt (.map (some b)) (.int q k) v).run Tryz.prog w = .ok () w' ∧ Mp kt q w' b (n + 1) (mupd V k (some v)) ∧ w.grownBy w' (some b) := by
  obtain ⟨D, h, hs⟩ := h
  obtain ⟨w', h1, h2, h3⟩ := h.update (int_keyed T.key) T.und hn (keyOf_int_mk T.key hk) (val := v) (d := .held v) (ps := []) rfl
  refine ⟨w', h1, ⟨D.put (mkl q k) (.held v), h2, fun j hj => ?_⟩, h3⟩
  unfold mupd
  by_cases he : j = k
  · subst he
    rw [if_pos rfl]
    exact ⟨has_put_same h.isMap (show WideAt.IsKeyLit (mkl q j) from trivial) _, fun z => atKey_put_same h.isMap (show WideAt.IsKeyLit (mkl q j) from trivial) _ _⟩
  · rw [if_neg he]
    have hj2 := hs j hj
    rcases hV : V j with _ | x
    · rw [hV] at hj2
      exact ⟨by rw [has_put_other (mkl_ne he)]; exact hj2.1, fun z => by rw [atKey_put_other (mkl_ne he)]; exact hj2.2 z⟩
    · rw [hV] at hj2
      exact ⟨by rw [has_put_other (mkl_ne he)]; exact hj2.1, fun z => by rw [atKey_put_other (mkl_ne he)]; exact hj2.2 z⟩
end
/-- Keys of kind int. -/
theorem wf64 (k : Int) (h : -9223372036854775808 ≤ k ∧ k ≤ 9223372036854775807) : (mkl .i64 k).wf = true := by
  have h1 : IntKind.i64.min = -9223372036854775808 := by decide
  have h2 : IntKind.i64.max = 9223372036854775807 := by decide
  simp [mkl, Lit.wf, h1, h2]
  omega
end Go.Proofs.YtnjpaanjgbfbaaaGreat
/- The device in memory; made, Pages, there, Ops. -/
namespace Go.Proofs.YtnjpaanjgbfbaaaGreat
set_option linter.unusedVariables false
set_option linter.unusedSimpArgs false
open Go.RowKit

/-- The cells of a device. -/
def dvC (vl : Value) (gn np cn : Nat) (vw : Value) (ao : Option Addr) (no co ops : Nat) : Array Value :=
  #[vl, .slice (some ⟨gn, 0, none⟩) np cn, vw, .slice ao no co, .int .i64 (-1), .bool false, .int .i64 (ops : Int)]
/-- Block d is a device: its pages' bytes, how many ops there were, what befalls the next ones. S: blocks that its bytes do not lie in. -/
def Dev (S : Nat → Prop) (w : World) (d np : Nat) (img : List UInt8) (ops : Nat) (outs : List UInt8) : Prop :=
  ∃ vl gn cn vw ao no co, w.heap[d]? = some (.cells (dvC vl gn np cn vw ao no co ops) 86 (0, 0)) ∧ RV w (some ⟨gn, 0, none⟩) np 256 (bvs img) ∧ np ≤ cn ∧ cn ≤ maxLen ∧ Rd w ao no outs ∧ no ≤ co ∧ S d ∧ ¬ S gn ∧ (∀ p, ao = some p → 0 < no → ¬ S p.block) ∧ 8 ≤ np ∧ np ≤ 4096 ∧ ops ≤ 1000000 ∧ co ≤ maxLen
theorem Dev.chg {S T : Nat → Prop} {w w' : World} {d np ops : Nat} {img outs : List UInt8} (h : Dev S w d np img ops outs) (hc : Chg T w w') (hT : ∀ j, j < w.heap.size → T j → S j) (hd : ¬ T d) : Dev S w' d np img ops outs := by
  obtain ⟨vl, gn, cn, vw, ao, no, co, h1, h2, h3, h4, h5, h6, h7, h8, h9, h10⟩ := h
  refine ⟨vl, gn, cn, vw, ao, no, co, ?_, ?_, h3, h4, ?_, h6, h7, h8, h9, h10⟩
  · rw [hc.block d (lt_of_block h1) hd]; exact h1
  · refine h2.of_cells fun p e i hi => ?_
    obtain ⟨q, e', hq⟩ := h2.2.2 i hi
    cases e; cases e'
    have hl := lt_of_cell hq
    refine World.cell?_of_block (w := w) (hc.block _ hl (fun ht => h8 ?_))
    have := hT _ hl ht
    rwa [add_block] at this
  · refine h5.of_cells fun p e i hi => ?_
    obtain ⟨q, e', hq⟩ := h5.2.2 i hi
    rw [e] at e'; cases e'
    have hl := lt_of_cell hq
    refine World.cell?_of_block (w := w) (hc.block _ hl (fun ht => h9 p e (by have := h5.1; omega) ?_))
    have := hT _ hl ht
    rwa [add_block] at this
theorem Dev.below {S : Nat → Prop} {w w' : World} {d np ops : Nat} {img outs : List UInt8} (h : Dev S w d np img ops outs) (hb : Below w.heap.size w w') : Dev S w' d np img ops outs :=
  h.chg (Chg.of_below hb (fun _ => False)) (fun _ _ h => h.elim) (fun h => h)
theorem Dev.lt {S : Nat → Prop} {w : World} {d np ops : Nat} {img outs : List UInt8} (h : Dev S w d np img ops outs) : d < w.heap.size := by
  obtain ⟨vl, gn, cn, vw, ao, no, co, h1, -⟩ := h
  exact lt_of_block h1
/-- The set of blocks may be another one. -/
theorem Dev.sets {S T : Nat → Prop} {w : World} {d np ops : Nat} {img outs : List UInt8} (h : Dev S w d np img ops outs) (hT : ∀ j, j < w.heap.size → T j → S j) (hd : T d) : Dev T w d np img ops outs := by
  obtain ⟨vl, gn, cn, vw, ao, no, co, h1, h2, h3, h4, h5, h6, h7, h8, h9, h10, h11⟩ := h
  refine ⟨vl, gn, cn, vw, ao, no, co, h1, h2, h3, h4, h5, h6, hd, fun ht => h8 (hT gn ?_ ht), ?_, h10, h11⟩
  · exact h2.lt (by have := h2.1; omega) _ rfl
  · intro p e h0 ht
    exact h9 p e h0 (hT _ (h5.lt (by have := h5.1; omega) p e) ht)
theorem ret_bl {b c : Bool} (h : b = c) : Ending.returned (.bool b) = .returned (.bool c) := by rw [h]
theorem dmade_any (S : Nat → Prop) (d np ops : Nat) (img outs : List UInt8) (w : World) (h : Dev S w d np img ops outs) : Calls Tryz.prog 34 #[.pointer (some ⟨d, 0, none⟩)] w fun e w' => e = .returned (.bool true) ∧ w = w' := by
  obtain ⟨vl, gn, cn, vw, ao, no, co, h1, -, -, -, -, -, -, -, -, h8, h9, -⟩ := h
  have g := cell_blk h1
  have hp : (0 : Int) < (np : Int) := by omega
  have hp' : 0 < np := by omega
  unfold dvC at g
  clear h1
  go_enter Tryz.func34, Tryz.ntmps34
  go_wp2
  go_ret
  exact ⟨rfl, rfl⟩
theorem dpages_any (S : Nat → Prop) (d np ops : Nat) (img outs : List UInt8) (w : World) (h : Dev S w d np img ops outs) : Calls Tryz.prog 60 #[.pointer (some ⟨d, 0, none⟩)] w fun e w' => e = .returned (.int .i64 (np : Int)) ∧ w = w' := by
  have HM := Lib.hid (fun w (h : Dev S w d np img ops outs) => dmade_any S d np ops img outs w h)
  have H := Lib.hid h
  obtain ⟨vl, gn, cn, vw, ao, no, co, h1, -, -, -, -, -, -, -, -, h8, h9, -⟩ := h
  have g := cell_blk h1
  unfold dvC at g
  clear h1
  go_enter Tryz.func60, Tryz.ntmps60
  go_wp2_with (go_at_call 34; refine (HM.out _ H.out).mono ?_; rintro e w1 ⟨rfl, rfl⟩)
  go_ret
  exact ⟨rfl, rfl⟩
theorem dops_any (S : Nat → Prop) (d np ops : Nat) (img outs : List UInt8) (w : World) (h : Dev S w d np img ops outs) : Calls Tryz.prog 15 #[.pointer (some ⟨d, 0, none⟩)] w fun e w' => e = .returned (.int .i64 (ops : Int)) ∧ w = w' := by
  obtain ⟨vl, gn, cn, vw, ao, no, co, h1, -, -, -, -, -, -, -, -, h8, h9, -⟩ := h
  have g := cell_blk h1
  unfold dvC at g
  clear h1
  go_enter Tryz.func15, Tryz.ntmps15
  go_wp2
  go_ret
  exact ⟨rfl, rfl⟩
theorem dthere_any (S : Nat → Prop) (d np ops : Nat) (img outs : List UInt8) (n : Int) (b : Bool) (w : World) (h : Dev S w d np img ops outs) (hb : decide (0 ≤ n ∧ n < (np : Int)) = b) : Calls Tryz.prog 53 #[.pointer (some ⟨d, 0, none⟩), .int .i64 n] w fun e w' => e = .returned (.bool b) ∧ w = w' := by
  have HP := Lib.hid (fun w (h : Dev S w d np img ops outs) => dpages_any S d np ops img outs w h)
  have H := Lib.hid h
  have HB := Lib.hid hb
  clear h hb
  go_enter Tryz.func53, Tryz.ntmps53
  by_cases h0 : 0 ≤ n
  all_goals
    go_wp2_with (go_at_call 60; refine (HP.out _ H.out).mono ?_; rintro e w1 ⟨rfl, rfl⟩)
    go_ret
    refine ⟨ret_bl ?_, rfl⟩
    rw [← HB.out]
    first
      | (symm; apply decide_eq_false; omega)
      | (apply decide_eq_decide.2; omega)
end Go.Proofs.YtnjpaanjgbfbaaaGreat
/- The device: Read. -/
namespace Go.Proofs.YtnjpaanjgbfbaaaGreat
set_option linter.unusedVariables false
set_option linter.unusedSimpArgs false
open Go.RowKit

theorem pg_length (img : List UInt8) (np n : Nat) (hl : img.length = 256 * np) (h : n < np) : (P.pg img n).length = 256 := by
  unfold P.pg
  rw [List.length_take, List.length_drop]
  omega
theorem RV.page {w : World} {gn np : Nat} {img : List UInt8} (h : RV w (some ⟨gn, 0, none⟩) np 256 (bvs img)) (n : Nat) (hn : n < np) : Rd w (some ⟨gn, n * 256, none⟩) 256 (P.pg img n) := by
  have hl : img.length = np * 256 := by have := h.1; rwa [bvs_length] at this
  refine ⟨pg_length img np n (by omega) hn, by unfold maxLen; omega, fun i hi => ⟨_, rfl, ?_⟩⟩
  have hi2 : i < 256 := by rw [pg_length img np n (by omega) hn] at hi; exact hi
  obtain ⟨q, e, hq⟩ := h.2.2 (n * 256 + i) (by rw [bvs_length]; omega)
  cases e
  have e1 : (⟨gn, n * 256, none⟩ : Addr).add i = (⟨gn, 0, none⟩ : Addr).add (n * 256 + i) := by unfold Addr.add; split <;> split <;> simp_all
  rw [e1, hq]
  have hb := bvs_at img (n * 256 + i) (by omega)
  rw [List.getElem?_eq_getElem (by rw [bvs_length]; omega)] at hb
  rw [hb]
  congr 1
  unfold P.pg
  simp [Nat.mul_comm]
theorem Dev.page {S : Nat → Prop} {w : World} {d np ops : Nat} {img outs : List UInt8} (h : Dev S w d np img ops outs) : img.length = 256 * np := by
  obtain ⟨vl, gn, cn, vw, ao, no, co, h1, h2, -⟩ := h
  have := h2.1
  rw [bvs_length] at this
  omega
def lostO (outs : List UInt8) : Bool := decide ((outs.headD 0).toNat % 3 = 1)
set_option maxRecDepth 100000 in
set_option maxHeartbeats 1600000 in
theorem read1_io (pd pp po : Addr) (w : World) : Calls Tryz.prog 55 #[.int .u8 1, .pointer (some pd), .pointer (some pp), .pointer (some po)] w fun e w' => e = .returned (.int .i64 7) ∧ w = w' := by
  go_enter Tryz.func55, Tryz.ntmps55
  go_wp2
  go_ret
  exact ⟨rfl, rfl⟩
set_option maxRecDepth 100000 in
set_option maxHeartbeats 1600000 in
theorem read1_ok (c : Int) (hc : c = 0 ∨ c = 2) (pd pp po : Nat) (n : Nat) (S : Nat → Prop) (d np ops : Nat) (img outs : List UInt8) (w : World) (h : Dev S w d np img ops outs) (hn : n < np)
    (h1 : w.cell? ⟨pd, 0, none⟩ = some (.pointer (some ⟨d, 0, none⟩))) (h2 : w.cell? ⟨pp, 0, none⟩ = some (.int .i64 (n : Int))) (h3 : w.heap[po]? = some (.cells #[.slice none 0 0] 22 (0, 0))) (hne : po ≠ d ∧ po ≠ pd ∧ po ≠ pp) :
    Calls Tryz.prog 55 #[.int .u8 c, .pointer (some ⟨pd, 0, none⟩), .pointer (some ⟨pp, 0, none⟩), .pointer (some ⟨po, 0, none⟩)] w fun e w' => ∃ v w1, e = .returned (.int .i64 0) ∧ w' = w1.setCell ⟨po, 0, none⟩ v ∧ OB w1 w.heap.size v (P.pg img n) ∧ Below w.heap.size w w1 := by
  have hl := h.page
  have hpl := pg_length img np n hl hn
  obtain ⟨vl, gn, cn, vw, ao, no, co, d1, d2, d3, d4, -, -, -, -, -, d8, d9, -⟩ := h
  have hrd := d2.page n hn
  have hB : Below w.heap.size w w.drew := ⟨rfl, rfl, rfl, Nat.le_refl _, fun _ _ => rfl⟩
  have hS : ∀ w', Chg (fun k => k = po) w w' → w'.cell? ⟨pd, 0, none⟩ = some (.pointer (some ⟨d, 0, none⟩)) ∧ w'.cell? ⟨pp, 0, none⟩ = some (.int .i64 (n : Int)) ∧ w'.cell? ⟨d, 1, none⟩ = some (.slice (some ⟨gn, 0, none⟩) np cn) := fun w' hb =>
    ⟨(World.cell?_of_block (w := w) (a := ⟨pd, 0, none⟩) (hb.block pd (lt_of_cell h1) (Ne.symm hne.2.1))).trans h1, (World.cell?_of_block (w := w) (a := ⟨pp, 0, none⟩) (hb.block pp (lt_of_cell h2) (Ne.symm hne.2.2))).trans h2, (World.cell?_of_block (w := w) (a := ⟨d, 1, none⟩) (hb.block d (lt_of_block d1) (Ne.symm hne.1))).trans (by rw [cell_blk d1]; rfl)⟩
  have HS := Lib.hid hS
  have HRD := Lib.hid hrd
  have HPL := Lib.hid hpl
  have H3 := Lib.hid h3
  have i0 : (0 : Int) ≤ (n : Int) := by omega
  have i1 : (n : Int) < (np : Int) := by omega
  have hmax : (np : Int) ≤ 4096 := by omega
  clear d2 hrd hS hpl hl h1 h2 d1 h3
  have hc1 : (c == 1) = false := by rcases hc with rfl | rfl <;> rfl
  clear hc
  go_enter Tryz.func55, Tryz.ntmps55
  go_wp2
  go_region_held3 (fun w' => w'.cell? ⟨pd, 0, none⟩ = some (.pointer (some ⟨d, 0, none⟩)) ∧ w'.cell? ⟨pp, 0, none⟩ = some (.int .i64 (n : Int)) ∧ w'.cell? ⟨d, 1, none⟩ = some (.slice (some ⟨gn, 0, none⟩) np cn))
    (first
      | exact HS.out _ (Chg.of_below hB _)
      | exact HS.out _ (Chg.of_below hb3 _)
      | exact HS.out _ ((Chg.of_below hb3 (fun k => k = po)).setCell _ _ (.inr rfl)))
    ((refine step_app _ rfl _ _ rfl w.heap.size (.slice none 0 0) [] rfl (OB.nil _ _) _ _ _ (P.pg img n) rfl (by exact HRD.out.drew) (by simp) (Nat.le_refl _) ?_; intro v3 w3 hown3 hg3 hat3; have hb3 : Below w.heap.size w w3 := below_of_drew ((OB.nil _ _).grown (Below.refl _ _) (Nat.le_refl _) hg3); obtain ⟨a3, cp3, hv3, -, -, -, -⟩ := hown3.form; subst hv3; have hk3 := (hb3.block po (lt_of_block H3.out)).trans H3.out; have gx3 := cell_blk hk3; have fx3 := free_blk hk3; clear hk3))
  all_goals
    go_wp2
    go_ret
    exact ⟨_, _, rfl, rfl, hown3, hb3⟩
end Go.Proofs.YtnjpaanjgbfbaaaGreat
/- The device: op, where a page is read. -/
namespace Go.Proofs.YtnjpaanjgbfbaaaGreat
set_option linter.unusedVariables false
set_option linter.unusedSimpArgs false
open Go.RowKit

theorem op1_idle (p q r : Addr) (w : World) :
    CallsD Tryz.prog 71 #[.pointer (some p), .pointer (some q), .pointer (some r)] .returning w fun e u' w' => e = .returned (.tuple #[]) ∧ u' = .returning ∧ w' = w := by
  refine callsD_of_wpS Tryz.func71 rfl fun c₀ cs hu => ?_
  apply wpS_seq
  apply wpS_region
  simp [wpOpsS, go_sem, recoverD, hu, Tryz.ntmps71, Exit.thenS]
  apply wpS_seq
  apply wpS_region
  simp [wpOpsS, go_sem, Exit.thenS]
  refine wpS_cond (t := false) (by simp [Act.eval, Array.replicate]) ?_
  simp only [Bool.false_eq_true, if_false]
  refine wpS_of_wp (wp_skip ?_)
  cases c₀
  simp_all [bodyPostS, results, Tryz.results71]
theorem setCell_chg (w : World) (d k : Nat) (v : Value) : Chg (fun j => j = d) w (w.setCell ⟨d, k, none⟩ v) := (Chg.refl _ w).setCell _ _ (.inr rfl)
theorem Dev.tick {S : Nat → Prop} {w : World} {d np ops : Nat} {img outs : List UInt8} (h : Dev S w d np img ops outs) (ho : ops < 1000000) : Dev S (w.setCell ⟨d, 6, none⟩ (.int .i64 ((ops : Int) + 1))) d np img (ops + 1) outs := by
  obtain ⟨vl, gn, cn, vw, ao, no, co, h1, h2, h3, h4, h5, h6, h7, h8, h9, h10, h11, h12, h13⟩ := h
  have hc := setCell_chg w d 6 (.int .i64 ((ops : Int) + 1))
  refine ⟨vl, gn, cn, vw, ao, no, co, ?_, h2.chg hc (fun p e he => ?_), h3, h4, ?_, h6, h7, h8, h9, h10, h11, by omega, h13⟩
  · rw [blk_setCell h1]
    rfl
  · cases e
    exact h8 (by rw [show gn = d from he]; exact h7)
  · refine h5.of_cells fun p e i hi => ?_
    obtain ⟨q, e', hq⟩ := h5.2.2 i hi
    rw [e] at e'; cases e'
    refine World.cell?_of_block (w := w) (hc.block _ (lt_of_cell hq) (fun ht => h9 p e (by have := h5.1; omega) ?_))
    rw [add_block] at ht
    exact ht ▸ h7
/-- The next outcome is taken. -/
theorem Dev.pull {S : Nat → Prop} {w : World} {d np ops : Nat} {img outs : List UInt8} {c : UInt8} {vl vw : Value} {gn cn no co : Nat} {p : Addr}
    (h1 : w.heap[d]? = some (.cells (dvC vl gn np cn vw (some p) no co ops) 86 (0, 0))) (h2 : RV w (some ⟨gn, 0, none⟩) np 256 (bvs img)) (h3 : np ≤ cn) (h4 : cn ≤ maxLen) (h5 : Rd w (some p) no (c :: outs)) (h6 : no ≤ co) (h7 : S d) (h8 : ¬ S gn) (h9 : ∀ q, some p = some q → 0 < no → ¬ S q.block) (h10 : 8 ≤ np) (h11 : np ≤ 4096) (h12 : ops ≤ 1000000) (h13 : co ≤ maxLen)
    (q : Addr) (hq : q = p.add 1 ∨ no = 1) : Dev S (w.setCell ⟨d, 3, none⟩ (.slice (some q) (no - 1) (co - 1))) d np img ops outs := by
  have hc := setCell_chg w d 3 (.slice (some q) (no - 1) (co - 1))
  have hl := h5.1
  simp at hl
  refine ⟨vl, gn, cn, vw, some q, no - 1, co - 1, ?_, h2.chg hc (fun p e he => ?_), h3, h4, ⟨by omega, by omega, fun i hi => ⟨q, rfl, ?_⟩⟩, by omega, h7, h8, ?_, h10, h11, h12, by omega⟩
  · rw [blk_setCell h1]
    rfl
  · cases e
    exact h8 (by rw [show gn = d from he]; exact h7)
  · rcases hq with rfl | hq
    · obtain ⟨r, e', hr⟩ := h5.2.2 (i + 1) (by simp; omega)
      cases e'
      have e1 : (p.add 1).add i = p.add (i + 1) := by
        rw [Addr.add_add]
        congr 1
        omega
      rw [e1]
      refine (World.cell?_of_block (w := w) (hc.block _ (lt_of_cell hr) (fun ht => h9 p rfl (by omega) ?_))).trans ?_
      · rw [add_block] at ht
        exact ht ▸ h7
      · rw [hr]
        rfl
    · omega
  · intro r e hno hS
    cases e
    rcases hq with rfl | hq
    · rw [add_block] at hS
      exact h9 p rfl (by omega) hS
    · omega
/-- What op leaves where a page was read. -/
def OpRd (S : Nat → Prop) (d np ops : Nat) (img outs : List UInt8) (n po : Nat) (w : World) (e : Ending) (w' : World) : Prop :=
  ∃ v, e = .returned (.int .i64 0) ∧ Dev S w' d np img (ops + 1) outs.tail ∧ w'.heap[po]? = some (.cells #[v] 22 (0, 0)) ∧ OB w' w.heap.size v (P.pg img n) ∧ Chg (fun k => k = d ∨ k = po) w w'
theorem op_end {S : Nat → Prop} {d np ops n po : Nat} {img outs : List UInt8} {w w0 wx w1 : World} {v : Value} (hb0 : Below w.heap.size w w0) (hsz : w0.heap.size = w.heap.size + 3) (hx : Chg (fun j => j = d) w0 wx) (hD : Dev S wx d np img (ops + 1) outs.tail)
    (hob : OB w1 wx.heap.size v (P.pg img n)) (hb1 : Below wx.heap.size wx w1) (h3 : w.heap[po]? = some (.cells #[.slice none 0 0] 22 (0, 0))) (hne : po ≠ d) (hd : d < w.heap.size) (hS : S po) (hSn : ∀ j, w.heap.size ≤ j → S j) :
    OpRd S d np ops img outs n po w (.returned (.int .i64 0)) ((w1.setCell ⟨po, 0, none⟩ v).setCell ⟨w.heap.size + 2, 0, none⟩ (.int .i64 0)) := by
  have hpo := lt_of_block h3
  have s1 := hx.size
  have s2 := hb1.size
  have hc : Chg (fun j => j = po ∨ w.heap.size ≤ j) wx ((w1.setCell ⟨po, 0, none⟩ v).setCell ⟨w.heap.size + 2, 0, none⟩ (.int .i64 0)) :=
    ((Chg.of_below hb1 _).setCell _ _ (.inr (.inl rfl))).setCell _ _ (.inr (.inr (Nat.le_add_right _ _)))
  have hpw : w1.heap[po]? = some (.cells #[.slice none 0 0] 22 (0, 0)) := by rw [hb1.block po (by omega), hx.block po (by omega) hne, hb0.block po hpo]; exact h3
  refine ⟨v, rfl, hD.chg hc (fun j _ hj => ?_) ?_, ?_, ?_, ?_⟩
  · rcases hj with rfl | hj
    · exact hS
    · exact hSn j hj
  · rintro (hj | hj)
    · exact hne hj.symm
    · omega
  · exact blk_other (blk_setCell hpw 0 v) _ (show po ≠ w.heap.size + 2 by omega) _
  · refine OB.mono (OB.chg (S := fun k => k < wx.heap.size) hob (((Chg.refl _ w1).setCell _ _ (.inr ?_)).setCell _ _ (.inr ?_)) fun k hk => ?_) (by omega)
    · show po < wx.heap.size; omega
    · show w.heap.size + 2 < wx.heap.size; omega
    · have h := (World.ownsRow.lt hob k hk).1
      show ¬ k < wx.heap.size
      have h2 : wx.heap.size ≤ k := h
      omega
  · refine ((Chg.of_below hb0 (fun k => k = d ∨ k = po)).trans (hx.mono fun i _ e => .inl e)).then hc (fun i hi e => ?_)
    rcases e with e | e
    · exact .inr e
    · omega
set_option maxRecDepth 100000 in
set_option maxHeartbeats 3200000 in
theorem op_ok0 (pd pp po : Nat) (n : Nat) (S : Nat → Prop) (d np ops : Nat) (img : List UInt8) (w : World) (h : Dev S w d np img ops []) (hop : ops < 1000000) (hn : n < np) (hS : S po) (hSn : ∀ j, w.heap.size ≤ j → S j)
    (h1 : w.heap[pd]? = some (.cells #[.pointer (some ⟨d, 0, none⟩)] 28 (0, 0))) (h2 : w.heap[pp]? = some (.cells #[.int .i64 (n : Int)] 3 (0, 0))) (h3 : w.heap[po]? = some (.cells #[.slice none 0 0] 22 (0, 0))) (hne : po ≠ d ∧ (po ≠ pd ∧ po ≠ pp) ∧ pp ≠ d ∧ pd ≠ d) :
    Calls Tryz.prog 54 #[.pointer (some ⟨d, 0, none⟩), .func (.func 55) #[] #[.pointer (some ⟨pd, 0, none⟩), .pointer (some ⟨pp, 0, none⟩), .pointer (some ⟨po, 0, none⟩)], .func (.func 56) #[] #[]] w
      (OpRd S d np ops img [] n po w) := by
  have hmf : ∀ (fn : Fn) (first cap : Array Value) (w : World), (Instr.makeFunc fn first cap).run Tryz.prog w = .ok (.func fn first cap) w := fun _ _ _ _ => rfl
  have HM := Lib.hid (fun w (h : Dev S w d np img ops []) => dmade_any S d np ops img [] w h)
  obtain ⟨w0, hw0⟩ : ∃ w0, w0 = ((w.alloc (.cells #[.pointer (some ⟨d, 0, none⟩)] 28)).alloc (.cells #[.func (.func 56) #[] #[]] 1)).alloc (.cells #[.int .i64 0] 29) := ⟨_, rfl⟩
  have hb0 : Below w.heap.size w w0 := by rw [hw0]; exact ((((Below.refl _ w).alloc (Nat.le_refl _) _).alloc (by simp) _).alloc (by simp; omega) _)
  have k0 : w0.heap[w.heap.size]? = some (.cells #[.pointer (some ⟨d, 0, none⟩)] 28 (0, 0)) := by rw [hw0]; exact alloc_old (alloc_old (alloc_new _ _ _ rfl) _) _
  have k1 : w0.heap[w.heap.size + 1]? = some (.cells #[.func (.func 56) #[] #[]] 1 (0, 0)) := by rw [hw0]; exact alloc_old (alloc_new _ _ _ (by simp)) _
  have k2 : w0.heap[w.heap.size + 2]? = some (.cells #[.int .i64 0] 29 (0, 0)) := by rw [hw0]; exact alloc_new _ _ _ (by simp)
  have H0 := Lib.hid (h.below hb0)
  have HZ := Lib.hid (show w0.heap.size = w.heap.size + 3 by rw [hw0]; simp)
  have K2 := Lib.hid k2
  have h00 := h.below hb0
  obtain ⟨vl, gn, cn, vw, ao, no, co, d1, d2, d3, d4, d5, d6, d7, d7', d7'', d8, d9, d10, d11⟩ := h00
  have g0 := cell_blk k0
  have g2 := cell_blk k2
  have f2 := free_blk k2
  have gd := cell_blk d1
  have fd := free_blk d1
  have hlt := h.lt
  have n0 : ¬ d = w.heap.size := by omega
  have n2 : ¬ d = w.heap.size + 2 := by omega
  have hno : no = 0 := by have := d5.1; simpa using this.symm
  subst hno
  unfold dvC at gd
  have o1 : (0 : Int) ≤ (ops : Int) := by omega
  have o2 : (ops : Int) < 1000000 := by omega
  have HD1 := Lib.hid d1
  clear d1 d2 d5 h k0 k1 k2
  go_enter_defers Tryz.func54, Tryz.ntmps54
  go_wp2_with fail
  rw [← hw0]
  refine (HM.out _ H0.out).mono ?_
  rintro e w1 ⟨rfl, rfl⟩
  clear hw0
  go_wp2_with fail
  have hsz : w0.heap.size = w.heap.size + 3 := HZ.out
  obtain ⟨wx, hwx⟩ : ∃ wx, wx = w0.setCell ⟨d, 6, none⟩ (.int .i64 ((ops : Int) + 1)) := ⟨_, rfl⟩
  have hxc : Chg (fun j => j = d) w0 wx := by rw [hwx]; exact setCell_chg _ _ _ _
  have hDx : Dev S wx d np img (ops + 1) [] := by rw [hwx]; exact H0.out.tick hop
  have hpd := lt_of_block h1
  have hpp := lt_of_block h2
  have hpo := lt_of_block h3
  have q1 : wx.cell? ⟨pd, 0, none⟩ = some (.pointer (some ⟨d, 0, none⟩)) := by
    have e : wx.heap[pd]? = w.heap[pd]? := (hxc.block pd (by omega) hne.2.2.2).trans (hb0.block pd hpd)
    rw [World.cell?_of_block (w := w) (a := ⟨pd, 0, none⟩) e, cell_blk h1]; rfl
  have q2 : wx.cell? ⟨pp, 0, none⟩ = some (.int .i64 (n : Int)) := by
    have e : wx.heap[pp]? = w.heap[pp]? := (hxc.block pp (by omega) hne.2.2.1).trans (hb0.block pp hpp)
    rw [World.cell?_of_block (w := w) (a := ⟨pp, 0, none⟩) e, cell_blk h2]; rfl
  have q3 : wx.heap[po]? = some (.cells #[.slice none 0 0] 22 (0, 0)) := by rw [hxc.block po (by omega) hne.1, hb0.block po hpo]; exact h3
  have q4 : wx.heap[w.heap.size + 2]? = some (.cells #[.int .i64 0] 29 (0, 0)) := (hxc.block _ (by omega) (by omega)).trans K2.out
  rw [← hwx]
  clear hwx
  refine (read1_ok 0 (.inl rfl) pd pp po n S d np (ops + 1) img [] wx hDx hn q1 q2 q3 ⟨hne.1, hne.2.1.1, hne.2.1.2⟩).mono ?_
  rintro e w2 ⟨v, w1, rfl, rfl, hob, hb1⟩
  have q5 := (hb1.block (w.heap.size + 2) (lt_of_block q4)).trans q4
  have q6 : (w1.setCell ⟨po, 0, none⟩ v).heap[w.heap.size + 2]? = some (.cells #[.int .i64 0] 29 (0, 0)) := blk_other q5 _ (show w.heap.size + 2 ≠ po by omega) _
  have HE := Lib.hid (op_end (n := n) (outs := []) hb0 hsz hxc hDx hob hb1 h3 hne.1 hlt hS hSn)
  have z5 := cell_blk q6
  have f5 := free_blk q6
  have hcz := cell_blk (blk_setCell q6 0 (.int .i64 0))
  clear hob hb1 q1 q2 q3 q4 q5 hDx hxc gd fd g0 g2 f2
  go_wp2
  refine leaves_cons (f := 71) (args := #[.pointer (some ⟨w.heap.size, 0, none⟩), .pointer (some ⟨w.heap.size + 2, 0, none⟩), .pointer (some ⟨w.heap.size + 1, 0, none⟩)]) (by simp) (by simp [go_sem]) ?_
  refine (op1_idle _ _ _ _).mono ?_
  rintro e u' w'' ⟨rfl, rfl, rfl⟩
  have HR := HE.out
  simp [Leaves, settle, results, Tryz.results54, go_sem, hcz]
  exact HR
end Go.Proofs.YtnjpaanjgbfbaaaGreat
/- The device: op, where a page is read, at an outcome. -/
namespace Go.Proofs.YtnjpaanjgbfbaaaGreat
set_option linter.unusedVariables false
set_option linter.unusedSimpArgs false
open Go.RowKit

theorem dv_tick {w : World} {d gn np cn no co ops : Nat} {vl vw : Value} {ao : Option Addr} (h : w.heap[d]? = some (.cells (dvC vl gn np cn vw ao no co ops) 86 (0, 0))) :
    (w.setCell ⟨d, 6, none⟩ (.int .i64 ((ops : Int) + 1))).heap[d]? = some (.cells (dvC vl gn np cn vw ao no co (ops + 1)) 86 (0, 0)) := by rw [blk_setCell h]; rfl
theorem dv_cell3 {w : World} {d gn np cn no co ops : Nat} {vl vw : Value} {ao : Option Addr} (h : w.heap[d]? = some (.cells (dvC vl gn np cn vw ao no co ops) 86 (0, 0))) : w.drew.cell? ⟨d, 3, none⟩ = some (.slice ao no co) := cell_blk h 3
set_option maxRecDepth 100000 in
set_option maxHeartbeats 3200000 in
theorem op_okc (pd pp po : Nat) (n : Nat) (S : Nat → Prop) (d np ops : Nat) (img outs : List UInt8) (c : UInt8) (w : World) (h : Dev S w d np img ops (c :: outs)) (hz : (c.toNat : Int) % 3 = 0 ∨ (c.toNat : Int) % 3 = 2) (hop : ops < 1000000) (hn : n < np) (hS : S po) (hSn : ∀ j, w.heap.size ≤ j → S j)
    (h1 : w.heap[pd]? = some (.cells #[.pointer (some ⟨d, 0, none⟩)] 28 (0, 0))) (h2 : w.heap[pp]? = some (.cells #[.int .i64 (n : Int)] 3 (0, 0))) (h3 : w.heap[po]? = some (.cells #[.slice none 0 0] 22 (0, 0))) (hne : po ≠ d ∧ (po ≠ pd ∧ po ≠ pp) ∧ pp ≠ d ∧ pd ≠ d) :
    Calls Tryz.prog 54 #[.pointer (some ⟨d, 0, none⟩), .func (.func 55) #[] #[.pointer (some ⟨pd, 0, none⟩), .pointer (some ⟨pp, 0, none⟩), .pointer (some ⟨po, 0, none⟩)], .func (.func 56) #[] #[]] w
      (OpRd S d np ops img (c :: outs) n po w) := by
  have hmf : ∀ (fn : Fn) (first cap : Array Value) (w : World), (Instr.makeFunc fn first cap).run Tryz.prog w = .ok (.func fn first cap) w := fun _ _ _ _ => rfl
  have HM := Lib.hid (fun w (h : Dev S w d np img ops (c :: outs)) => dmade_any S d np ops img (c :: outs) w h)
  obtain ⟨w0, hw0⟩ : ∃ w0, w0 = ((w.alloc (.cells #[.pointer (some ⟨d, 0, none⟩)] 28)).alloc (.cells #[.func (.func 56) #[] #[]] 1)).alloc (.cells #[.int .i64 0] 29) := ⟨_, rfl⟩
  have hb0 : Below w.heap.size w w0 := by rw [hw0]; exact ((((Below.refl _ w).alloc (Nat.le_refl _) _).alloc (by simp) _).alloc (by simp; omega) _)
  have k0 : w0.heap[w.heap.size]? = some (.cells #[.pointer (some ⟨d, 0, none⟩)] 28 (0, 0)) := by rw [hw0]; exact alloc_old (alloc_old (alloc_new _ _ _ rfl) _) _
  have k1 : w0.heap[w.heap.size + 1]? = some (.cells #[.func (.func 56) #[] #[]] 1 (0, 0)) := by rw [hw0]; exact alloc_old (alloc_new _ _ _ (by simp)) _
  have k2 : w0.heap[w.heap.size + 2]? = some (.cells #[.int .i64 0] 29 (0, 0)) := by rw [hw0]; exact alloc_new _ _ _ (by simp)
  have H0 := Lib.hid (h.below hb0)
  have HZ := Lib.hid (show w0.heap.size = w.heap.size + 3 by rw [hw0]; simp)
  have K2 := Lib.hid k2
  have K0 := Lib.hid k0
  have h00 := h.below hb0
  obtain ⟨vl, gn, cn, vw, ao, no, co, d1, d2, d3, d4, d5, d6, d7, d7', d7'', d8, d9, d10, d11⟩ := h00
  have g0 := cell_blk k0
  have g2 := cell_blk k2
  have f2 := free_blk k2
  have gd := cell_blk d1
  have fd := free_blk d1
  have hlt := h.lt
  have n0 : ¬ d = w.heap.size := by omega
  have n2 : ¬ d = w.heap.size + 2 := by omega
  have hnn : 0 < no := by have := d5.1; simp at this; omega
  obtain ⟨p, rfl, hcp⟩ := d5.at 0 (by simp)
  have hcp' : w0.cell? p = some (.int .u8 (c.toNat : Int)) := by
    have e : p.add 0 = p := by cases p; unfold Addr.add; split <;> simp_all
    rw [e] at hcp
    exact hcp
  have hpl := lt_of_cell hcp'
  have hpd0 : p.block ≠ d := fun e => d7'' p rfl hnn (by rw [e]; exact d7)
  have u1 : (0 : Int) < (no : Int) := by omega
  have u2 : (no : Int) ≤ (co : Int) := by omega
  have u3 : (1 : Int) ≤ (no : Int) := by omega
  have u5 : (1 : Int) ≤ (co : Int) := by omega
  have D7 := Lib.hid d7''
  have HPL := Lib.hid hpl
  have HPD := Lib.hid hpd0
  clear hcp d7'' hpl hpd0
  unfold dvC at gd
  have o1 : (0 : Int) ≤ (ops : Int) := by omega
  have o2 : (ops : Int) < 1000000 := by omega
  have HD1 := Lib.hid d1
  clear d1 d2 d5 h k0 k1 k2
  by_cases u4 : co = 1
  all_goals
    first | (subst u4; have u6 : no = 1 := by omega) | skip
    go_enter_defers Tryz.func54, Tryz.ntmps54
    go_wp2_with fail
    rw [← hw0]
    refine (HM.out _ H0.out).mono ?_
    rintro e w1 ⟨rfl, rfl⟩
    clear hw0
    go_upto_if 29 with (fail)
    obtain ⟨wy, hwy⟩ : ∃ wy, wy = w0.setCell ⟨d, 6, none⟩ (.int .i64 ((ops : Int) + 1)) := ⟨_, rfl⟩
    rw [← hwy]
    have HDy := Lib.hid (show Dev S wy d np img (ops + 1) (c :: outs) by rw [hwy]; exact H0.out.tick hop)
    have hyc : Chg (fun j => j = d) w0 wy := by rw [hwy]; exact setCell_chg _ _ _ _
    have d1y := dv_tick HD1.out
    rw [← hwy] at d1y
    have hcpy : wy.cell? p = some (.int .u8 (c.toNat : Int)) := (World.cell?_of_block (w := w0) (hyc.block _ HPL.out HPD.out)).trans hcp'
    have k0y := (hyc.block _ (lt_of_block K0.out) (Ne.symm n0)).trans K0.out
    have gdy := cell_blk d1y
    have fdy := free_blk d1y
    have g0y := cell_blk k0y
    unfold dvC at gdy
    clear gd fd g0 g2 f2 hcp' hwy
    go_wp2_with fail
    go_still_tail 8, (by kernel_rfl)
    change wpList _ _ _ _ _ wy.drew
    have fdz : ∀ i, wy.drew.frozen? ⟨d, i, none⟩ = false := fdy
    have hcz := dv_cell3 d1y
    have hWZ := Lib.hid (show wy.drew = wy.drew from rfl)
    generalize hwz : wy.drew = wz at fdz hcz ⊢
    clear gdy fdy g0y
    go_wp2_with fail
    generalize hwx : World.setCell _ ⟨d, 3, none⟩ _ = wx
    have hsz : w0.heap.size = w.heap.size + 3 := HZ.out
    have hxc : Chg (fun j => j = d) w0 wx := by
      rw [← hwx]
      exact hyc.trans ((by rw [← hwz]; exact Chg.drew (Chg.refl _ wy) : Chg (fun j => j = d) wy wz).setCell _ _ (.inr rfl))
    have hDx : Dev S wx d np img (ops + 1) outs := by
      rw [← hwx, ← hwz]
      obtain ⟨vl', gn', cn', vw', ao', no', co', e1, e2, e3, e4, e5, e6, e7, e8, e9, e10, e11, e12, e13⟩ := HDy.out
      have ee := d1y.symm.trans e1
      unfold dvC at ee
      simp at ee
      obtain ⟨rfl, ⟨rfl, rfl⟩, rfl, rfl, rfl, rfl⟩ := ee
      first
        | exact Dev.pull (w := wy.drew) d1y e2 e3 e4 e5 e6 e7 e8 e9 e10 e11 e12 e13 _ (.inl (by unfold Addr.add; simp))
        | (have hh := Dev.pull (w := wy.drew) d1y e2 e3 e4 e5 e6 e7 e8 e9 e10 e11 e12 e13 p (.inr u6); rw [show no - 1 = 0 by omega] at hh; exact hh)
    have hpd := lt_of_block h1
    have hpp := lt_of_block h2
    have hpo := lt_of_block h3
    have q1 : wx.cell? ⟨pd, 0, none⟩ = some (.pointer (some ⟨d, 0, none⟩)) := by
      have e : wx.heap[pd]? = w.heap[pd]? := (hxc.block pd (by omega) hne.2.2.2).trans (hb0.block pd hpd)
      rw [World.cell?_of_block (w := w) (a := ⟨pd, 0, none⟩) e, cell_blk h1]; rfl
    have q2 : wx.cell? ⟨pp, 0, none⟩ = some (.int .i64 (n : Int)) := by
      have e : wx.heap[pp]? = w.heap[pp]? := (hxc.block pp (by omega) hne.2.2.1).trans (hb0.block pp hpp)
      rw [World.cell?_of_block (w := w) (a := ⟨pp, 0, none⟩) e, cell_blk h2]; rfl
    have q3 : wx.heap[po]? = some (.cells #[.slice none 0 0] 22 (0, 0)) := by rw [hxc.block po (by omega) hne.1, hb0.block po hpo]; exact h3
    have q4 : wx.heap[w.heap.size + 2]? = some (.cells #[.int .i64 0] 29 (0, 0)) := (hxc.block _ (by omega) (by omega)).trans K2.out
    clear hwx hcpy hwz fdz hcz
    refine (read1_ok _ hz pd pp po n S d np (ops + 1) img outs wx hDx hn q1 q2 q3 ⟨hne.1, hne.2.1.1, hne.2.1.2⟩).mono ?_
    rintro e w2 ⟨v, w1, rfl, rfl, hob, hb1⟩
    have q5 := (hb1.block (w.heap.size + 2) (lt_of_block q4)).trans q4
    have q6 : (w1.setCell ⟨po, 0, none⟩ v).heap[w.heap.size + 2]? = some (.cells #[.int .i64 0] 29 (0, 0)) := blk_other q5 _ (show w.heap.size + 2 ≠ po by omega) _
    have HE := Lib.hid (op_end (n := n) (outs := c :: outs) hb0 hsz hxc hDx hob hb1 h3 hne.1 hlt hS hSn)
    have z5 := cell_blk q6
    have f5 := free_blk q6
    have hcz := cell_blk (blk_setCell q6 0 (.int .i64 0))
    clear hob hb1 q1 q2 q3 q4 q5 hDx hxc 
    go_wp2
    refine leaves_cons (f := 71) (args := #[.pointer (some ⟨w.heap.size, 0, none⟩), .pointer (some ⟨w.heap.size + 2, 0, none⟩), .pointer (some ⟨w.heap.size + 1, 0, none⟩)]) (by simp) (by simp [go_sem]) ?_
    refine (op1_idle _ _ _ _).mono ?_
    rintro e u' w'' ⟨rfl, rfl, rfl⟩
    have HR := HE.out
    simp [Leaves, settle, results, Tryz.results54, go_sem, hcz]
    exact HR
/-- What op leaves where a read fails. -/
def OpIo (S : Nat → Prop) (d np ops : Nat) (img outs : List UInt8) (w : World) (e : Ending) (w' : World) : Prop :=
  e = .returned (.int .i64 7) ∧ Dev S w' d np img (ops + 1) outs.tail ∧ Chg (fun k => k = d) w w'
theorem op_ioend {S : Nat → Prop} {d np ops : Nat} {img outs : List UInt8} {w w0 wx : World} (hb0 : Below w.heap.size w w0) (hx : Chg (fun j => j = d) w0 wx) (hD : Dev S wx d np img (ops + 1) outs.tail)
    (hd : d < w.heap.size) (hSn : ∀ j, w.heap.size ≤ j → S j) : OpIo S d np ops img outs w (.returned (.int .i64 7)) (wx.setCell ⟨w.heap.size + 2, 0, none⟩ (.int .i64 7)) := by
  have hc : Chg (fun j => w.heap.size ≤ j) wx (wx.setCell ⟨w.heap.size + 2, 0, none⟩ (.int .i64 7)) := (Chg.refl _ wx).setCell _ _ (.inr (Nat.le_add_right _ _))
  refine ⟨rfl, hD.chg hc (fun j _ hj => hSn j hj) (by omega), ?_⟩
  exact ((Chg.of_below hb0 (fun k => k = d)).trans hx).then hc (fun i hi e => by omega)
set_option maxRecDepth 100000 in
set_option maxHeartbeats 3200000 in
theorem op_io (pd pp po : Nat) (n : Nat) (S : Nat → Prop) (d np ops : Nat) (img outs : List UInt8) (c : UInt8) (w : World) (h : Dev S w d np img ops (c :: outs)) (hz : (c.toNat : Int) % 3 = 1) (hop : ops < 1000000) (hn : n < np) (hS : S po) (hSn : ∀ j, w.heap.size ≤ j → S j)
    (h1 : w.heap[pd]? = some (.cells #[.pointer (some ⟨d, 0, none⟩)] 28 (0, 0))) (h2 : w.heap[pp]? = some (.cells #[.int .i64 (n : Int)] 3 (0, 0))) (h3 : w.heap[po]? = some (.cells #[.slice none 0 0] 22 (0, 0))) (hne : po ≠ d ∧ (po ≠ pd ∧ po ≠ pp) ∧ pp ≠ d ∧ pd ≠ d) :
    Calls Tryz.prog 54 #[.pointer (some ⟨d, 0, none⟩), .func (.func 55) #[] #[.pointer (some ⟨pd, 0, none⟩), .pointer (some ⟨pp, 0, none⟩), .pointer (some ⟨po, 0, none⟩)], .func (.func 56) #[] #[]] w
      (OpIo S d np ops img (c :: outs) w) := by
  have hmf : ∀ (fn : Fn) (first cap : Array Value) (w : World), (Instr.makeFunc fn first cap).run Tryz.prog w = .ok (.func fn first cap) w := fun _ _ _ _ => rfl
  have HM := Lib.hid (fun w (h : Dev S w d np img ops (c :: outs)) => dmade_any S d np ops img (c :: outs) w h)
  obtain ⟨w0, hw0⟩ : ∃ w0, w0 = ((w.alloc (.cells #[.pointer (some ⟨d, 0, none⟩)] 28)).alloc (.cells #[.func (.func 56) #[] #[]] 1)).alloc (.cells #[.int .i64 0] 29) := ⟨_, rfl⟩
  have hb0 : Below w.heap.size w w0 := by rw [hw0]; exact ((((Below.refl _ w).alloc (Nat.le_refl _) _).alloc (by simp) _).alloc (by simp; omega) _)
  have k0 : w0.heap[w.heap.size]? = some (.cells #[.pointer (some ⟨d, 0, none⟩)] 28 (0, 0)) := by rw [hw0]; exact alloc_old (alloc_old (alloc_new _ _ _ rfl) _) _
  have k1 : w0.heap[w.heap.size + 1]? = some (.cells #[.func (.func 56) #[] #[]] 1 (0, 0)) := by rw [hw0]; exact alloc_old (alloc_new _ _ _ (by simp)) _
  have k2 : w0.heap[w.heap.size + 2]? = some (.cells #[.int .i64 0] 29 (0, 0)) := by rw [hw0]; exact alloc_new _ _ _ (by simp)
  have H0 := Lib.hid (h.below hb0)
  have HZ := Lib.hid (show w0.heap.size = w.heap.size + 3 by rw [hw0]; simp)
  have K2 := Lib.hid k2
  have K0 := Lib.hid k0
  have h00 := h.below hb0
  obtain ⟨vl, gn, cn, vw, ao, no, co, d1, d2, d3, d4, d5, d6, d7, d7', d7'', d8, d9, d10, d11⟩ := h00
  have g0 := cell_blk k0
  have g2 := cell_blk k2
  have f2 := free_blk k2
  have gd := cell_blk d1
  have fd := free_blk d1
  have hlt := h.lt
  have n0 : ¬ d = w.heap.size := by omega
  have n2 : ¬ d = w.heap.size + 2 := by omega
  have hnn : 0 < no := by have := d5.1; simp at this; omega
  obtain ⟨p, rfl, hcp⟩ := d5.at 0 (by simp)
  have hcp' : w0.cell? p = some (.int .u8 (c.toNat : Int)) := by
    have e : p.add 0 = p := by cases p; unfold Addr.add; split <;> simp_all
    rw [e] at hcp
    exact hcp
  have hpl := lt_of_cell hcp'
  have hpd0 : p.block ≠ d := fun e => d7'' p rfl hnn (by rw [e]; exact d7)
  have u1 : (0 : Int) < (no : Int) := by omega
  have u2 : (no : Int) ≤ (co : Int) := by omega
  have u3 : (1 : Int) ≤ (no : Int) := by omega
  have u5 : (1 : Int) ≤ (co : Int) := by omega
  have D7 := Lib.hid d7''
  have HPL := Lib.hid hpl
  have HPD := Lib.hid hpd0
  clear hcp d7'' hpl hpd0
  unfold dvC at gd
  have HZ1 := Lib.hid hz
  clear hz
  have o1 : (0 : Int) ≤ (ops : Int) := by omega
  have o2 : (ops : Int) < 1000000 := by omega
  have HD1 := Lib.hid d1
  clear d1 d2 d5 h k0 k1 k2
  by_cases u4 : co = 1
  all_goals
    first | (subst u4; have u6 : no = 1 := by omega) | skip
    go_enter_defers Tryz.func54, Tryz.ntmps54
    go_wp2_with fail
    rw [← hw0]
    refine (HM.out _ H0.out).mono ?_
    rintro e w1 ⟨rfl, rfl⟩
    clear hw0
    go_upto_if 29 with (fail)
    obtain ⟨wy, hwy⟩ : ∃ wy, wy = w0.setCell ⟨d, 6, none⟩ (.int .i64 ((ops : Int) + 1)) := ⟨_, rfl⟩
    rw [← hwy]
    have HDy := Lib.hid (show Dev S wy d np img (ops + 1) (c :: outs) by rw [hwy]; exact H0.out.tick hop)
    have hyc : Chg (fun j => j = d) w0 wy := by rw [hwy]; exact setCell_chg _ _ _ _
    have d1y := dv_tick HD1.out
    rw [← hwy] at d1y
    have hcpy : wy.cell? p = some (.int .u8 (c.toNat : Int)) := (World.cell?_of_block (w := w0) (hyc.block _ HPL.out HPD.out)).trans hcp'
    have k0y := (hyc.block _ (lt_of_block K0.out) (Ne.symm n0)).trans K0.out
    have gdy := cell_blk d1y
    have fdy := free_blk d1y
    have g0y := cell_blk k0y
    unfold dvC at gdy
    clear gd fd g0 g2 f2 hcp' hwy
    go_wp2_with fail
    go_still_tail 8, (by kernel_rfl)
    change wpList _ _ _ _ _ wy.drew
    have fdz : ∀ i, wy.drew.frozen? ⟨d, i, none⟩ = false := fdy
    have hcz := dv_cell3 d1y
    have hWZ := Lib.hid (show wy.drew = wy.drew from rfl)
    generalize hwz : wy.drew = wz at fdz hcz ⊢
    clear gdy fdy g0y
    go_wp2_with fail
    generalize hwx : World.setCell _ ⟨d, 3, none⟩ _ = wx
    have hsz : w0.heap.size = w.heap.size + 3 := HZ.out
    have hxc : Chg (fun j => j = d) w0 wx := by
      rw [← hwx]
      exact hyc.trans ((by rw [← hwz]; exact Chg.drew (Chg.refl _ wy) : Chg (fun j => j = d) wy wz).setCell _ _ (.inr rfl))
    have hDx : Dev S wx d np img (ops + 1) outs := by
      rw [← hwx, ← hwz]
      obtain ⟨vl', gn', cn', vw', ao', no', co', e1, e2, e3, e4, e5, e6, e7, e8, e9, e10, e11, e12, e13⟩ := HDy.out
      have ee := d1y.symm.trans e1
      unfold dvC at ee
      simp at ee
      obtain ⟨rfl, ⟨rfl, rfl⟩, rfl, rfl, rfl, rfl⟩ := ee
      first
        | exact Dev.pull (w := wy.drew) d1y e2 e3 e4 e5 e6 e7 e8 e9 e10 e11 e12 e13 _ (.inl (by unfold Addr.add; simp))
        | (have hh := Dev.pull (w := wy.drew) d1y e2 e3 e4 e5 e6 e7 e8 e9 e10 e11 e12 e13 p (.inr u6); rw [show no - 1 = 0 by omega] at hh; exact hh)
    have hpd := lt_of_block h1
    have hpp := lt_of_block h2
    have hpo := lt_of_block h3
    have q4 : wx.heap[w.heap.size + 2]? = some (.cells #[.int .i64 0] 29 (0, 0)) := (hxc.block _ (by omega) (by omega)).trans K2.out
    clear hwx hcpy hwz fdz hcz
    rw [HZ1.out]
    refine (read1_io ⟨pd, 0, none⟩ ⟨pp, 0, none⟩ ⟨po, 0, none⟩ wx).mono ?_
    rintro e w2 ⟨rfl, rfl⟩
    have HE := Lib.hid (op_ioend (outs := c :: outs) hb0 hxc hDx hlt hSn)
    have z5 := cell_blk q4
    have f5 := free_blk q4
    have hcz := cell_blk (blk_setCell q4 0 (.int .i64 7))
    clear q4 hDx hxc
    go_wp2
    refine leaves_cons (f := 71) (args := #[.pointer (some ⟨w.heap.size, 0, none⟩), .pointer (some ⟨w.heap.size + 2, 0, none⟩), .pointer (some ⟨w.heap.size + 1, 0, none⟩)]) (by simp) (by simp [go_sem]) ?_
    refine (op1_idle _ _ _ _).mono ?_
    rintro e u' w'' ⟨rfl, rfl, rfl⟩
    have HR := HE.out
    simp [Leaves, settle, results, Tryz.results54, go_sem, hcz]
    exact HR
end Go.Proofs.YtnjpaanjgbfbaaaGreat
/- The device: Read. -/
namespace Go.Proofs.YtnjpaanjgbfbaaaGreat
set_option linter.unusedVariables false
set_option linter.unusedSimpArgs false
open Go.RowKit

theorem op_ok (pd pp po : Nat) (n : Nat) (S : Nat → Prop) (d np ops : Nat) (img outs : List UInt8) (w : World) (h : Dev S w d np img ops outs) (hl : lostO outs = false) (hop : ops < 1000000) (hn : n < np) (hS : S po) (hSn : ∀ j, w.heap.size ≤ j → S j)
    (h1 : w.heap[pd]? = some (.cells #[.pointer (some ⟨d, 0, none⟩)] 28 (0, 0))) (h2 : w.heap[pp]? = some (.cells #[.int .i64 (n : Int)] 3 (0, 0))) (h3 : w.heap[po]? = some (.cells #[.slice none 0 0] 22 (0, 0))) (hne : po ≠ d ∧ (po ≠ pd ∧ po ≠ pp) ∧ pp ≠ d ∧ pd ≠ d) :
    Calls Tryz.prog 54 #[.pointer (some ⟨d, 0, none⟩), .func (.func 55) #[] #[.pointer (some ⟨pd, 0, none⟩), .pointer (some ⟨pp, 0, none⟩), .pointer (some ⟨po, 0, none⟩)], .func (.func 56) #[] #[]] w
      (OpRd S d np ops img outs n po w) := by
  rcases outs with _ | ⟨c, outs⟩
  · exact op_ok0 pd pp po n S d np ops img w h hop hn hS hSn h1 h2 h3 hne
  · have hl := of_decide_eq_false hl
    simp at hl
    exact op_okc pd pp po n S d np ops img outs c w h (by omega) hop hn hS hSn h1 h2 h3 hne
theorem op_lost (pd pp po : Nat) (n : Nat) (S : Nat → Prop) (d np ops : Nat) (img outs : List UInt8) (w : World) (h : Dev S w d np img ops outs) (hl : lostO outs = true) (hop : ops < 1000000) (hn : n < np) (hS : S po) (hSn : ∀ j, w.heap.size ≤ j → S j)
    (h1 : w.heap[pd]? = some (.cells #[.pointer (some ⟨d, 0, none⟩)] 28 (0, 0))) (h2 : w.heap[pp]? = some (.cells #[.int .i64 (n : Int)] 3 (0, 0))) (h3 : w.heap[po]? = some (.cells #[.slice none 0 0] 22 (0, 0))) (hne : po ≠ d ∧ (po ≠ pd ∧ po ≠ pp) ∧ pp ≠ d ∧ pd ≠ d) :
    Calls Tryz.prog 54 #[.pointer (some ⟨d, 0, none⟩), .func (.func 55) #[] #[.pointer (some ⟨pd, 0, none⟩), .pointer (some ⟨pp, 0, none⟩), .pointer (some ⟨po, 0, none⟩)], .func (.func 56) #[] #[]] w
      (OpIo S d np ops img outs w) := by
  have hl := of_decide_eq_true hl
  rcases outs with _ | ⟨c, outs⟩
  · simp at hl
  · simp at hl
    exact op_io pd pp po n S d np ops img outs c w h (by omega) hop hn hS hSn h1 h2 h3 hne
/-- What Read tells. -/
def RdOk (S : Nat → Prop) (d np ops : Nat) (img outs : List UInt8) (n : Nat) (w : World) (e : Ending) (w' : World) : Prop :=
  ∃ v, e = .returned (.tuple #[v, .int .i64 0]) ∧ OB w' w.heap.size v (P.pg img n) ∧ Dev S w' d np img (ops + 1) outs.tail ∧ Chg (fun k => k = d) w w'
def RdIo (S : Nat → Prop) (d np ops : Nat) (img outs : List UInt8) (w : World) (e : Ending) (w' : World) : Prop :=
  e = .returned (.tuple #[.slice none 0 0, .int .i64 7]) ∧ Dev S w' d np img (ops + 1) outs.tail ∧ Chg (fun k => k = d) w w'
theorem chg_new {w w0 w' : World} {d po : Nat} (hb : Below w.heap.size w w0) (hpo : w.heap.size ≤ po) (h : Chg (fun k => k = d ∨ k = po) w0 w') : Chg (fun k => k = d) w w' :=
  (Chg.of_below hb (fun k => k = d)).then h (fun i hi e => by rcases e with e | e; exact e; omega)
theorem Dev.wide {S : Nat → Prop} {w : World} {d np ops : Nat} {img outs : List UInt8} (h : Dev S w d np img ops outs) : Dev (fun j => S j ∨ w.heap.size ≤ j) w d np img ops outs := by
  refine h.sets (fun j hj e => ?_) ?_
  · rcases e with e | e
    · exact e
    · omega
  · obtain ⟨vl, gn, cn, vw, ao, no, co, h1, h2, h3, h4, h5, h6, h7, -⟩ := h
    exact .inl h7
theorem Dev.mem {S : Nat → Prop} {w : World} {d np ops : Nat} {img outs : List UInt8} (h : Dev S w d np img ops outs) : S d := by
  obtain ⟨vl, gn, cn, vw, ao, no, co, h1, h2, h3, h4, h5, h6, h7, -⟩ := h
  exact h7
set_option maxRecDepth 100000 in
set_option maxHeartbeats 3200000 in
theorem dread_ok (S : Nat → Prop) (d np ops : Nat) (img outs : List UInt8) (n : Nat) (w : World) (h : Dev S w d np img ops outs) (hl : lostO outs = false) (hop : ops < 1000000) (hn : n < np) :
    Calls Tryz.prog 41 #[.pointer (some ⟨d, 0, none⟩), .int .i64 (n : Int)] w (RdOk S d np ops img outs n w) := by
  have hmf : ∀ (fn : Fn) (first cap : Array Value) (w : World), (Instr.makeFunc fn first cap).run Tryz.prog w = .ok (.func fn first cap) w := fun _ _ _ _ => rfl
  have hlt := h.lt
  have hmem := h.mem
  have hw := h.wide
  obtain ⟨T, hT⟩ : ∃ T : Nat → Prop, T = fun j => S j ∨ w.heap.size ≤ j := ⟨_, rfl⟩
  rw [← hT] at hw
  have HM := Lib.hid (fun w (h : Dev T w d np img ops outs) => dmade_any T d np ops img outs w h)
  have HT := Lib.hid (fun w (h : Dev T w d np img ops outs) => dthere_any T d np ops img outs n true w h (decide_eq_true (by omega)))
  obtain ⟨w0, hw0⟩ : ∃ w0, w0 = (w.alloc (.cells #[.pointer (some ⟨d, 0, none⟩)] 28)).alloc (.cells #[.int .i64 (n : Int)] 3) := ⟨_, rfl⟩
  have hb0 : Below w.heap.size w w0 := by rw [hw0]; exact (((Below.refl _ w).alloc (Nat.le_refl _) _).alloc (by simp) _)
  have k0 : w0.heap[w.heap.size]? = some (.cells #[.pointer (some ⟨d, 0, none⟩)] 28 (0, 0)) := by rw [hw0]; exact alloc_old (alloc_new _ _ _ rfl) _
  have k1 : w0.heap[w.heap.size + 1]? = some (.cells #[.int .i64 (n : Int)] 3 (0, 0)) := by rw [hw0]; exact alloc_new _ _ _ (by simp)
  have hz : w0.heap.size = w.heap.size + 2 := by rw [hw0]; simp
  have H0 := Lib.hid (hw.below hb0)
  have g0 := cell_blk k0
  have g1 := cell_blk k1
  have HL := Lib.hid hl
  clear hw h hl
  go_enter Tryz.func41, Tryz.ntmps41
  go_wp2_with fail
  rw [← hw0]
  clear hw0
  refine (HM.out _ H0.out).mono ?_
  rintro e w1 ⟨rfl, rfl⟩
  go_wp2_with fail
  refine (HT.out _ H0.out).mono ?_
  rintro e w1 ⟨rfl, rfl⟩
  go_wp2_with fail
  obtain ⟨w2, hw2⟩ : ∃ w2, w2 = w0.alloc (.cells #[.slice none 0 0] 22) := ⟨_, rfl⟩
  rw [← hw2]
  have hb2 : Below w0.heap.size w0 w2 := by rw [hw2]; exact (Below.refl _ w0).alloc (Nat.le_refl _) _
  have hb02 := below_then hb0 hb2 hb0.size
  have k2 : w2.heap[w.heap.size + 2]? = some (.cells #[.slice none 0 0] 22 (0, 0)) := by rw [hw2]; exact alloc_new _ _ _ hz.symm
  have k0' := (hb2.block _ (lt_of_block k0)).trans k0
  have k1' := (hb2.block _ (lt_of_block k1)).trans k1
  have H2 := H0.out.below hb2
  have hz2 : w2.heap.size = w.heap.size + 3 := by rw [hw2]; simp [hz]
  have hTn : ∀ j, w.heap.size ≤ j → T j := fun j hj => by rw [hT]; exact .inr hj
  have hTS : ∀ j, S j → T j := fun j hj => by rw [hT]; exact .inl hj
  clear hw2 hT g0 g1
  refine (op_ok w.heap.size (w.heap.size + 1) (w.heap.size + 2) n T d np ops img outs w2 H2 HL.out hop hn (hTn _ (by omega)) (fun j hj => hTn j (by omega)) k0' k1' k2 ⟨by omega, ⟨by omega, by omega⟩, by omega, by omega⟩).mono ?_
  rintro e w3 ⟨v, rfl, hD3, k3, ho3, hc3⟩
  have g3 := cell_blk k3
  have hcc := chg_new hb02 (by omega : w.heap.size ≤ w.heap.size + 2) hc3
  have HE := Lib.hid (show RdOk S d np ops img outs n w (.returned (.tuple #[v, .int .i64 0])) w3 from ⟨v, rfl, ho3.mono hb02.size, hD3.sets (fun j _ hj => hTS j hj) hmem, hcc⟩)
  clear hD3 ho3 hc3 hcc H2 k0' k1' k2 k3
  go_wp2
  go_ret2
  exact HE.out
set_option maxRecDepth 100000 in
set_option maxHeartbeats 3200000 in
theorem dread_io (S : Nat → Prop) (d np ops : Nat) (img outs : List UInt8) (n : Nat) (w : World) (h : Dev S w d np img ops outs) (hl : lostO outs = true) (hop : ops < 1000000) (hn : n < np) :
    Calls Tryz.prog 41 #[.pointer (some ⟨d, 0, none⟩), .int .i64 (n : Int)] w (RdIo S d np ops img outs w) := by
  have hmf : ∀ (fn : Fn) (first cap : Array Value) (w : World), (Instr.makeFunc fn first cap).run Tryz.prog w = .ok (.func fn first cap) w := fun _ _ _ _ => rfl
  have hlt := h.lt
  have hmem := h.mem
  have hw := h.wide
  obtain ⟨T, hT⟩ : ∃ T : Nat → Prop, T = fun j => S j ∨ w.heap.size ≤ j := ⟨_, rfl⟩
  rw [← hT] at hw
  have HM := Lib.hid (fun w (h : Dev T w d np img ops outs) => dmade_any T d np ops img outs w h)
  have HT := Lib.hid (fun w (h : Dev T w d np img ops outs) => dthere_any T d np ops img outs n true w h (decide_eq_true (by omega)))
  obtain ⟨w0, hw0⟩ : ∃ w0, w0 = (w.alloc (.cells #[.pointer (some ⟨d, 0, none⟩)] 28)).alloc (.cells #[.int .i64 (n : Int)] 3) := ⟨_, rfl⟩
  have hb0 : Below w.heap.size w w0 := by rw [hw0]; exact (((Below.refl _ w).alloc (Nat.le_refl _) _).alloc (by simp) _)
  have k0 : w0.heap[w.heap.size]? = some (.cells #[.pointer (some ⟨d, 0, none⟩)] 28 (0, 0)) := by rw [hw0]; exact alloc_old (alloc_new _ _ _ rfl) _
  have k1 : w0.heap[w.heap.size + 1]? = some (.cells #[.int .i64 (n : Int)] 3 (0, 0)) := by rw [hw0]; exact alloc_new _ _ _ (by simp)
  have hz : w0.heap.size = w.heap.size + 2 := by rw [hw0]; simp
  have H0 := Lib.hid (hw.below hb0)
  have g0 := cell_blk k0
  have g1 := cell_blk k1
  have HL := Lib.hid hl
  clear hw h hl
  go_enter Tryz.func41, Tryz.ntmps41
  go_wp2_with fail
  rw [← hw0]
  clear hw0
  refine (HM.out _ H0.out).mono ?_
  rintro e w1 ⟨rfl, rfl⟩
  go_wp2_with fail
  refine (HT.out _ H0.out).mono ?_
  rintro e w1 ⟨rfl, rfl⟩
  go_wp2_with fail
  obtain ⟨w2, hw2⟩ : ∃ w2, w2 = w0.alloc (.cells #[.slice none 0 0] 22) := ⟨_, rfl⟩
  rw [← hw2]
  have hb2 : Below w0.heap.size w0 w2 := by rw [hw2]; exact (Below.refl _ w0).alloc (Nat.le_refl _) _
  have hb02 := below_then hb0 hb2 hb0.size
  have k2 : w2.heap[w.heap.size + 2]? = some (.cells #[.slice none 0 0] 22 (0, 0)) := by rw [hw2]; exact alloc_new _ _ _ hz.symm
  have k0' := (hb2.block _ (lt_of_block k0)).trans k0
  have k1' := (hb2.block _ (lt_of_block k1)).trans k1
  have H2 := H0.out.below hb2
  have hz2 : w2.heap.size = w.heap.size + 3 := by rw [hw2]; simp [hz]
  have hTn : ∀ j, w.heap.size ≤ j → T j := fun j hj => by rw [hT]; exact .inr hj
  have hTS : ∀ j, S j → T j := fun j hj => by rw [hT]; exact .inl hj
  clear hw2 hT g0 g1
  refine (op_lost w.heap.size (w.heap.size + 1) (w.heap.size + 2) n T d np ops img outs w2 H2 HL.out hop hn (hTn _ (by omega)) (fun j hj => hTn j (by omega)) k0' k1' k2 ⟨by omega, ⟨by omega, by omega⟩, by omega, by omega⟩).mono ?_
  rintro e w3 ⟨rfl, hD3, hc3⟩
  have k3 := (hc3.block _ (lt_of_block k2) (by omega)).trans k2
  have g3 := cell_blk k3
  have hcc := chg_new hb02 (by omega : w.heap.size ≤ w.heap.size + 2) (hc3.mono (fun _ _ e => .inl e))
  have HE := Lib.hid (show RdIo S d np ops img outs w (.returned (.tuple #[.slice none 0 0, .int .i64 7])) w3 from ⟨rfl, hD3.sets (fun j _ hj => hTS j hj) hmem, hcc⟩)
  clear hD3 hc3 hcc H2 k0' k1' k2 k3
  go_wp2
  go_ret2
  exact HE.out
end Go.Proofs.YtnjpaanjgbfbaaaGreat
/- The device: made, Load. -/
namespace Go.Proofs.YtnjpaanjgbfbaaaGreat
set_option linter.unusedVariables false
set_option linter.unusedSimpArgs false
open Go.RowKit

/-- The zero of a block of bytes. -/
def blkZ : Value := .agg (List.replicate 256 (.int .u8 0)).toArray
set_option maxRecDepth 100000 in
theorem blk_info : (Tryz.prog.info? 69).map (fun i => (i.zero, i.size, i.bytes)) = some (some blkZ, 256, 256) := by kernel_rfl
theorem blkZ_cells : blkZ.cells = (List.replicate 256 (Value.int .u8 0)).toArray := by kernel_rfl
theorem blocksT : SlT 67 69 256 256 := ⟨Tryz.underlying67, ⟨blkZ, blk_info, by rw [blkZ_cells, List.size_toArray, List.length_replicate]⟩, by omega⟩
theorem dmake_any (g np cap : Nat) (img : List UInt8) (w : World) (hr : RV w (some ⟨g, 0, none⟩) np 256 (bvs img)) (h8 : 8 ≤ np) (h4 : np ≤ 4096) :
    Calls Tryz.prog 26 #[.slice (some ⟨g, 0, none⟩) np cap] w fun e w' => ∃ d, e = .returned (.pointer (some ⟨d, 0, none⟩)) ∧ w.heap.size ≤ d ∧ Dev (fun j => j = d) w' d np img 0 [] ∧ Below w.heap.size w w' := by
  have HR := Lib.hid hr
  clear hr
  go_enter Tryz.func26, Tryz.ntmps26
  go_wp2_with (at_builtin; refine wpList_appV blocksT _ rfl _ _ rfl w.heap.size _ _ _ rfl (OV.nil _ _ _ _) _ _ _ _ rfl HR.out (bvs_one _) ?c1 ?c2 (Nat.le_refl _) ?_)
  case c1 => omega
  case c2 => omega
  intro v1 w1 ho1 hg1 hat1
  obtain ⟨gn, cn, rfl, hgb, hgl, hrv, hcn⟩ := ho1.pos (by omega)
  have hb1 : Below w.heap.size w w1 := (OV.nil w w.heap.size 69 256).grown (Below.refl _ _) (Nat.le_refl _) hg1
  have hcm : cn ≤ maxLen := by
    rcases ho1.2 with ⟨e, -⟩ | ⟨g', cap', cur, e, -, -, -, hm, -⟩
    · cases e
    · cases e; exact hm
  have HO := Lib.hid hrv
  clear ho1 hg1 hat1 hrv
  go_wp2
  go_ret
  have hbb := (hb1.alloc hb1.size (.cells #[.slice (some ⟨g, 0, none⟩) np cap, .slice (some ⟨gn, 0, none⟩) np cn, .slice none 0 0, .slice none 0 0, .int .i64 (-1), .bool false, .int .i64 0] 86))
  refine ⟨w1.heap.size, rfl, hb1.size, ⟨_, gn, cn, _, none, 0, 0, alloc_new _ _ _ rfl, ?_, hcn, hcm, Rd.nil _ _, Nat.le_refl _, rfl, ?_, (fun p h => by cases h), h8, h4, by omega, by unfold maxLen; omega⟩, hbb⟩
  · exact HO.out.below ((Below.refl _ w1).alloc (Nat.le_refl _) _)
  · omega
theorem rep_at (m k : Nat) (x : Value) (h : k < m) : (List.replicate m x).toArray[k]! = x := by simp [h]
theorem made_blk (n : Nat) : madeCells blkZ.cells (n * 256) = (bvs (List.replicate (n * 256) 0)).toArray := by
  apply Array.ext'
  apply List.ext_getElem?
  intro j
  by_cases hj : j < n * 256
  · have h256 : blkZ.cells.size = 256 := by rw [blkZ_cells, List.size_toArray, List.length_replicate]
    have hm : j % 256 < 256 := Nat.mod_lt _ (by omega)
    simp only [madeCells, h256]
    rw [Array.getElem?_toList, Array.getElem?_map]
    simp only [hj, Array.getElem?_range, if_true, Option.map_some]
    rw [blkZ_cells, rep_at _ _ _ hm]
    simp [bvs, bv, hj]
  · simp [madeCells, hj, bvs]
theorem mk_blocks (n : Nat) (hn : n ≤ 4096) (w : World) : (Instr.makeSlice 67 (.int .i64 (n : Int)) (.int .i64 (n : Int))).run Tryz.prog w = .ok (.slice (some ⟨w.heap.size, 0, none⟩) n n) (w.alloc (.cells (bvs (List.replicate (n * 256) 0)).toArray 69)) := by
  obtain ⟨i, hi, hz0, hz1, hz2⟩ := info_parts blk_info
  have h := run_make (P := Tryz.prog) w 67 69 i blkZ Tryz.underlying67 hi hz0 .i64 .i64 (n : Int) (n : Int) (by omega) (by omega) (by rw [hz2]; omega) (by omega)
  simp only [Int.toNat_natCast, hz1] at h
  rw [h, made_blk]
/-- What a device's bytes are while they are loaded: the first i pages. -/
def ldTo (b : List UInt8) (np i : Nat) : List UInt8 := b.take (i * 256) ++ List.replicate ((np - i) * 256) 0
theorem ldTo_length (b : List UInt8) (np i : Nat) (hl : b.length = 256 * np) (hi : i ≤ np) : (ldTo b np i).length = np * 256 := by
  simp [ldTo]
  omega
theorem splice_mid {α : Type} (A P Z1 Z2 : List α) (k : Nat) (hk : A.length = k) (h : Z1.length = P.length) : splice (A ++ (Z1 ++ Z2)) k P = A ++ (P ++ Z2) := by
  subst hk
  unfold splice
  rw [List.take_left, ← List.drop_drop, List.drop_left, ← h, List.drop_left]
theorem ldTo_splice (b : List UInt8) (np i : Nat) (hl : b.length = 256 * np) (hi : i < np) : splice (bvs (ldTo b np i)) (i * 256) (bvs (P.pg b i)) = bvs (ldTo b np (i + 1)) := by
  have hp := pg_length b np i hl hi
  have e3 : ldTo b np i = b.take (i * 256) ++ (List.replicate 256 0 ++ List.replicate ((np - (i + 1)) * 256) 0) := by
    unfold ldTo
    rw [List.replicate_append_replicate]
    congr 2
    have : np - i = (np - (i + 1)) + 1 := by omega
    rw [this, Nat.add_mul, Nat.one_mul, Nat.add_comm]
  have e4 : ldTo b np (i + 1) = b.take (i * 256) ++ (P.pg b i ++ List.replicate ((np - (i + 1)) * 256) 0) := by
    unfold ldTo P.pg
    rw [← List.append_assoc]
    congr 1
    rw [Nat.add_mul, Nat.one_mul, List.take_add, Nat.mul_comm 256 i]
  rw [e3, e4]
  simp only [bvs_append]
  refine splice_mid _ _ _ _ _ ?_ ?_
  · rw [bvs_length, List.length_take]
    omega
  · rw [bvs_length, bvs_length, hp, List.length_replicate]
theorem ldTo_all (b : List UInt8) (np : Nat) (hl : b.length = 256 * np) : ldTo b np np = b := by
  unfold ldTo
  rw [Nat.sub_self, Nat.zero_mul, List.replicate_zero, List.append_nil, List.take_of_length_le (by omega)]
theorem ldTo_zero (b : List UInt8) (np : Nat) : ldTo b np 0 = List.replicate (np * 256) 0 := by simp [ldTo]
end Go.Proofs.YtnjpaanjgbfbaaaGreat
/- The device: Load. -/
namespace Go.Proofs.YtnjpaanjgbfbaaaGreat
set_option linter.unusedVariables false
set_option linter.unusedSimpArgs false
open Go.RowKit

theorem u8_size : (Tryz.prog.info? 5).map (·.size) = some 1 := by
  obtain ⟨i, hi, hz0, hz1, hz2⟩ := info_parts u8_info
  rw [hi]
  simp [hz1]
set_option maxRecDepth 100000 in
set_option maxHeartbeats 3200000 in
theorem load_any (a : Option Addr) (L cap np : Nat) (b : List UInt8) (w : World) (hr : Rd w a L b) (hc : L ≤ cap) (hL : L = 256 * np) (h8 : 8 ≤ np) (h4 : np ≤ 4096) :
    Calls Tryz.prog 9 #[.slice a L cap] w fun e w' => ∃ d, e = .returned (.tuple #[.pointer (some ⟨d, 0, none⟩), .int .i64 0]) ∧ w.heap.size ≤ d ∧ Dev (fun j => j = d) w' d np b 0 [] ∧ Below w.heap.size w w' := by
  have hbl : b.length = 256 * np := by rw [hr.1]; exact hL
  obtain ⟨p, rfl, -⟩ := hr.at 0 (by omega)
  have hq : (L : Int) / 256 = (np : Int) := by omega
  have hm : (L : Int) % 256 = 0 := by omega
  have n8 : (8 : Int) ≤ (np : Int) := by omega
  have n4 : (np : Int) ≤ 4096 := by omega
  have hmk := fun w => mk_blocks np h4 w
  have HR := Lib.hid hr
  have HBL := Lib.hid hbl
  have HLL := Lib.hid hL
  have lm : (L : Int) ≤ 1048576 := by omega
  clear hr hbl hL
  go_enter Tryz.func9, Tryz.ntmps9
  go_wp2
  go_loopw [26] (fun i wr => ∃ j : Nat, j ≤ np ∧ i = .int .i64 j ∧ wr.heap[w.heap.size]? = some (.cells (bvs (ldTo b np j)).toArray 69 (0, 0)) ∧ Below w.heap.size w wr) (fun i _ => np - (intOf i).toNat)
  case atStart => exact ⟨0, by omega, rfl, by rw [ldTo_zero]; exact alloc_new _ _ _ rfl, (Below.refl _ _).alloc (Nat.le_refl _) _⟩
  case round =>
    obtain ⟨j, hj, rfl, hg, hb⟩ := hrel
    by_cases hlt : j < np
    · have HG := Lib.hid hg
      obtain ⟨M, hM⟩ : ∃ M : Nat, M = j * 256 := ⟨_, rfl⟩
      have hM2 : (j : Int) * 256 = (M : Int) := by omega
      have m1 : (0 : Int) ≤ (M : Int) := by omega
      have m2 : (M : Int) ≤ (L : Int) := by have := HLL.out; omega
      have m3 : ¬ cap = M := by have := HLL.out; omega
      have hw1 : IntKind.i64.wrap ((j : Int) * 256) = (M : Int) := by rw [IntWalk.i64_in _ (by omega)]; exact hM2
      have hw2 : IntKind.i64.wrap (M : Int) = (M : Int) := IntWalk.i64_in _ (by omega)
      have HM := Lib.hid hM
      have hpl := pg_length b np j HBL.out hlt
      have HN := Lib.hid (show (bvs (P.pg b j)).length = Nat.min (L - M) 256 by rw [bvs_length, hpl]; have := HLL.out; rw [hM]; simp [Nat.min_def]; omega)
      have HFIT := Lib.hid (show j * 256 + (bvs (P.pg b j)).length ≤ (bvs (ldTo b np j)).length by rw [bvs_length, hpl, bvs_length, ldTo_length b np j HBL.out hj]; omega)
      have HPOS := Lib.hid (show ∀ i v, (bvs (P.pg b j))[i]? = some v → wr.drew.cell? ((p.add M).add i) = some v from fun i v hv => by
        have hi : i < 256 := by
          have h := (List.getElem?_eq_some_iff.1 hv).1
          rw [bvs_length, hpl] at h
          exact h
        obtain ⟨q, e, hq⟩ := (HR.out.below hb).at (M + i) (by rw [HBL.out]; omega)
        cases e
        rw [Addr.add_add]
        refine (show wr.cell? (p.add (M + i)) = some v from ?_)
        rw [hq]
        have hv2 := bvs_at (P.pg b j) i (by rw [hpl]; exact hi)
        rw [hv2] at hv
        rw [← hv]
        congr 2
        unfold P.pg
        simp [hM, Nat.mul_comm])
      clear hg hM hpl
      go_wp2
      go_region_held3 (fun _ => True) (trivial)
        ((refine step_copy_splice rfl _ _ _ _ rfl 5 Tryz.underlying22 u8_size _ _ _ _ _ _ rfl rfl w.heap.size (j * 256) (bvs (ldTo b np j)) 69 HG.out (bvs (P.pg b j)) HN.out (fun _ => ⟨rfl, _, rfl, HPOS.out⟩) HFIT.out (bvs_one _) w.heap.size w (Below.drew hb) (Nat.le_refl _) ?_; intro w' hcell hb'))
      all_goals
        go_wp2
        go_roundw
        case rel =>
          refine ⟨j + 1, by omega, by go_num, ?_, hb'⟩
          rw [hcell.out, ldTo_splice b np j HBL.out hlt]
        case measure => simp [intOf]; omega
    · obtain rfl : j = np := by omega
      rw [ldTo_all b j HBL.out] at hg
      have hrv : RV wr (some ⟨w.heap.size, 0, none⟩) j 256 (bvs b) := by
        refine ⟨by rw [bvs_length, HBL.out]; omega, by unfold maxLen; omega, fun i hi => ⟨_, rfl, ?_⟩⟩
        rw [show (⟨w.heap.size, 0, none⟩ : Addr).add i = ⟨w.heap.size, i, none⟩ from by unfold Addr.add; split <;> simp_all, cell_blk hg]
        simp
      have HV := Lib.hid hrv
      have HB := Lib.hid hb
      clear hg hrv hb
      go_wp2_with (go_at_call 26; refine (dmake_any _ _ _ b _ HV.out h8 h4).mono ?_; rintro e w2 ⟨d, rfl, hd1, hd2, hd3⟩; have HD := Lib.hid hd2; clear hd2)
      go_ret2
      exact ⟨d, rfl, by have := HB.out.size; omega, HD.out, below_then HB.out hd3 HB.out.size⟩
end Go.Proofs.YtnjpaanjgbfbaaaGreat
/- The device: New, Image, Outcomes. -/
namespace Go.Proofs.YtnjpaanjgbfbaaaGreat
set_option linter.unusedVariables false
set_option linter.unusedSimpArgs false
open Go.RowKit

theorem img_take (img : List UInt8) (np k : Nat) (hl : img.length = 256 * np) (hk : k < np) : img.take (256 * (k + 1)) = img.take (256 * k) ++ P.pg img k := by
  unfold P.pg
  rw [Nat.mul_add, Nat.mul_one, List.take_add]
set_option maxRecDepth 100000 in
set_option maxHeartbeats 1600000 in
theorem dimage_any (S : Nat → Prop) (d np ops : Nat) (img outs : List UInt8) (w : World) (h : Dev S w d np img ops outs) :
    Calls Tryz.prog 17 #[.pointer (some ⟨d, 0, none⟩)] w fun e w' => ∃ v, e = .returned v ∧ OB w' w.heap.size v img ∧ Below w.heap.size w w' := by
  have HM := Lib.hid (fun w (h : Dev S w d np img ops outs) => dmade_any S d np ops img outs w h)
  have hl := h.page
  have H := Lib.hid h
  obtain ⟨vl, gn, cn, vw, ao, no, co, h1, h2, h3, h4, -, -, -, -, -, h8, h9, -⟩ := h
  have H1 := Lib.hid h1
  have H2 := Lib.hid h2
  have HL := Lib.hid hl
  have g := cell_blk h1
  unfold dvC at g
  have hnp : (np : Int) ≤ 4096 := by omega
  clear h1 h2 hl
  go_enter Tryz.func17, Tryz.ntmps17
  go_wp2_with (go_at_call 34; refine (HM.out _ H.out).mono ?_; rintro e w1 ⟨rfl, rfl⟩)
  clear g
  go_loopw [3, 13] (fun v i wr => ∃ k : Nat, k ≤ np ∧ i = .int .i64 k ∧ OB wr w.heap.size v (img.take (256 * k)) ∧ Below w.heap.size w wr) (fun _ i _ => np - (intOf i).toNat)
  case atStart => exact ⟨0, by omega, rfl, by simpa using OB.nil _ _, Below.refl _ _⟩
  case round =>
    obtain ⟨k, hk, rfl, hov, hbr⟩ := hrel
    have htl : (img.take (256 * k)).length = 256 * k := by rw [List.length_take, HL.out]; omega
    obtain ⟨av, cv, hv, -⟩ := hov.form
    rw [htl] at hv
    subst hv
    have HTT := Lib.hid htl
    clear htl
    have hq := (hbr.block _ (lt_of_block H1.out)).trans H1.out
    have g := cell_blk hq
    unfold dvC at g
    have HOV := Lib.hid hov
    have HBR := Lib.hid hbr
    by_cases hlt : k < np
    · have i1 : (k : Int) < (np : Int) := by omega
      have i0 : (0 : Int) ≤ (k : Int) := by omega
      have HPG := Lib.hid ((H2.out.below hbr).page k hlt)
      have HTL := Lib.hid (show (img.take (256 * k)).length + 256 ≤ 140737488355328 by rw [List.length_take]; omega)
      have HTK := Lib.hid (img_take img np k HL.out hlt)
      have HBS := Lib.hid hbr.size
      clear hov hbr hq
      go_wp2_with (at_builtin; refine wpList_app _ rfl _ _ rfl w.heap.size _ _ rfl HOV.out _ _ _ _ rfl HPG.out HTL.out HBS.out ?_)
      intro v5 w5 ho5 hg5 hat5
      have hb5 := HOV.out.grown HBR.out HBS.out hg5
      rw [← HTK.out] at ho5
      obtain ⟨a5, e5, hv5, -⟩ := ho5.form
      subst hv5
      have HO5 := Lib.hid ho5
      have HB5 := Lib.hid hb5
      clear ho5 hg5 hat5 hb5 g
      go_wp2
      exact ⟨⟨k + 1, by omega, by go_num, HO5.out, HB5.out⟩, by simp [intOf]; omega⟩
    · obtain rfl : k = np := by omega
      have HFIN := Lib.hid (show ∃ v, Ending.returned (Value.slice av (256 * k) cv) = .returned v ∧ OB wr w.heap.size v img ∧ Below w.heap.size w wr from ⟨_, rfl, by
        have h := hov
        have e : img.take (256 * k) = img := List.take_of_length_le (by rw [HL.out]; exact Nat.le_refl _)
        rw [e] at h
        exact h, hbr⟩)
      clear hov hbr hq
      go_wp2
      go_ret
      exact HFIN.out
set_option maxRecDepth 100000 in
set_option maxHeartbeats 1600000 in
theorem doutc_any (S : Nat → Prop) (d np ops : Nat) (img outs l : List UInt8) (a : Option Addr) (n c : Nat) (w : World) (h : Dev S w d np img ops outs) (hS : ∀ j, S j → j < w.heap.size) (hr : Rd w a n l) (hn : outs.length + n ≤ 1000000) :
    Calls Tryz.prog 16 #[.pointer (some ⟨d, 0, none⟩), .slice a n c] w fun e w' => e = .returned (.tuple #[]) ∧ Dev S w' d np img ops (outs ++ l) ∧ Chg (fun j => j = d) w w' := by
  have HM := Lib.hid (fun w (h : Dev S w d np img ops outs) => dmade_any S d np ops img outs w h)
  have H := Lib.hid h
  have HD := Lib.hid h.lt
  obtain ⟨vl, gn, cn, vw, ao, no, co, h1, h2, h3, h4, h5, h6, h7, h8, h9, h10⟩ := h
  have H1 := Lib.hid h1
  have H5 := Lib.hid h5
  have HR := Lib.hid hr
  have g := cell_blk h1
  unfold dvC at g
  have hno : no = outs.length := h5.1.symm
  have HNO := Lib.hid hno
  have HN := Lib.hid hn
  have HALL := Lib.hid (show RV w (some ⟨gn, 0, none⟩) np 256 (bvs img) ∧ np ≤ cn ∧ cn ≤ maxLen ∧ S d ∧ ¬ S gn ∧ (8 ≤ np ∧ np ≤ 4096 ∧ ops ≤ 1000000 ∧ co ≤ maxLen) from ⟨h2, h3, h4, h7, h8, h10⟩)
  clear h1 h2 h3 h4 h5 hr h6 h7 h8 h9 h10 hno hn
  go_enter Tryz.func16, Tryz.ntmps16
  go_wp2_with (first
    | (go_at_call 34; refine (HM.out _ H.out).mono ?_; rintro e w1 ⟨rfl, rfl⟩)
    | (at_builtin; refine wpList_app _ rfl _ _ rfl w.heap.size (.slice none 0 0) [] rfl (OB.nil _ _) _ _ _ _ rfl H5.out (by have := HN.out; have := HNO.out; simp; omega) (Nat.le_refl _) ?_))
  intro v5 w5 ho5 hg5 hat5
  have hb5 : Below w.heap.size w w5 := (OB.nil w w.heap.size).grown (Below.refl _ _) (Nat.le_refl _) hg5
  obtain ⟨a5, e5, hv5, -⟩ := ho5.form
  subst hv5
  have HO5 := Lib.hid ho5
  have HB5 := Lib.hid hb5
  have HR5 := Lib.hid (HR.out.below hb5)
  have HS5 := Lib.hid hb5.size
  have HNN := Lib.hid (show outs.length + n ≤ 140737488355328 by have := HN.out; omega)
  have hk5 := (hb5.block _ HD.out).trans H1.out
  have g5 := cell_blk hk5
  have f5 := free_blk hk5
  unfold dvC at g5
  have K5 := Lib.hid hk5
  clear ho5 hg5 hat5 hb5 hk5 g
  go_wp2_with (at_builtin; refine wpList_app _ rfl _ _ rfl w.heap.size _ outs rfl HO5.out _ _ _ _ rfl HR5.out HNN.out HS5.out ?_)
  intro v6 w6 ho6 hg6 hat6
  have hb6 := HO5.out.grown HB5.out HS5.out hg6
  obtain ⟨a6, e6, hv6, hr6, hc6, ha6, -⟩ := ho6.form
  have hcm : e6 ≤ maxLen := by
    rcases ho6.2 with ⟨e, -⟩ | ⟨g', cap', cur, e, -, -, -, hm, -⟩
    · rw [hv6] at e; injection e with _ _ e; unfold maxLen; omega
    · rw [hv6] at e; injection e with _ _ e; rw [e]; exact hm
  subst hv6
  have hk6 := (hb6.block _ HD.out).trans H1.out
  have g6 := cell_blk hk6
  have f6 := free_blk hk6
  unfold dvC at g6
  have hl6 : (outs ++ l).length = outs.length + n := by rw [List.length_append, HR.out.1]
  rw [hl6] at hr6 hc6 ha6 ⊢
  have hsc := setCell_chg w6 d 3 (.slice a6 (outs.length + n) e6)
  have HFIN := Lib.hid (show Dev S (w6.setCell ⟨d, 3, none⟩ (.slice a6 (outs.length + n) e6)) d np img ops (outs ++ l) ∧ Chg (fun j => j = d) w (w6.setCell ⟨d, 3, none⟩ (.slice a6 (outs.length + n) e6)) from by
    obtain ⟨q2, q3, q4, q7, q8, q10⟩ := HALL.out
    refine ⟨⟨vl, gn, cn, vw, a6, outs.length + n, e6, ?_, ?_, q3, q4, ?_, hc6, q7, q8, fun p e _ hs => ?_, q10.1, q10.2.1, q10.2.2.1, hcm⟩, (Chg.of_below hb6 _).trans hsc⟩
    · rw [blk_setCell hk6]
      rfl
    · exact (q2.below hb6).chg hsc (fun p e => by
        cases e
        intro e
        have e : gn = d := e
        exact q8 (e.symm ▸ q7))
    · exact hr6.chg hsc (fun p e h => by have := (ha6 p e).1; have := HD.out; omega)
    · have := hS _ hs
      have := (ha6 p e).1
      omega)
  clear ho6 hg6 hat6 hb6 hk6 hr6 ha6 hl6 hsc g5 f5
  go_wp2
  go_end0
  exact ⟨rfl, HFIN.out⟩
end Go.Proofs.YtnjpaanjgbfbaaaGreat
