/- maps.Keys, slices.AppendSeq, slices.Collect, at bytes. -/
import Derived.Test.YtleicgigkbfnbaaReM
import Derived.Test.YtleicgigkbfnbaaRh
import Derived.Sort.MapsRangeIn
import Derived.Shelf.AbstractIn
import Derived.RegionIn
namespace Go.Proofs.Ytleicgigkbfnbaa
set_option linter.unusedVariables false
set_option linter.unusedSimpArgs false
open Go.RowKit Go.Shelf Go.Maps
attribute [local go_sem] Oper.semAt_some

theorem grownBy_setCell0 (W : World) (k : Nat) (v : Value) : W.grownBy (W.setCell ⟨k, 0, none⟩ v) (some k) := grownBy_setCell' W k v
theorem keyOf8 {key : Value} {z : Lit} (h : keyOf Try.prog 5 key = some z) : ∃ x : UInt8, key = bv x ∧ z = kl x.toNat := by
  have hu := Try.underlying5
  cases key <;> simp [keyOf, hu, mapKey] at h
  rename_i q a
  obtain ⟨⟨rfl, hw⟩, rfl⟩ := h
  have h1 : IntKind.u8.min = 0 := by decide
  have h2 : IntKind.u8.max = 255 := by decide
  simp [Lit.wf, h1, h2] at hw
  have hx : (UInt8.ofNat a.toNat).toNat = a.toNat := by
    rw [UInt8.toNat_ofNat']
    omega
  refine ⟨UInt8.ofNat a.toNat, ?_, ?_⟩
  · unfold bv
    rw [hx]
    congr 1
    omega
  · unfold kl
    rw [hx]
    congr 1
    omega
theorem kl8_inj {x y : UInt8} (h : kl x.toNat = kl y.toNat) : x = y := by
  unfold kl at h
  injection h with h1 h2
  exact UInt8.toNat_inj.1 (by omega)
/-- No key twice; a key is on the list just where the map has it and it is no longer to come. -/
def Coll (D : DataW Value) (left : Lit → Bool) (ks : List UInt8) : Prop := ks.Nodup ∧ ∀ x : UInt8, x ∈ ks ↔ (has D (kl x.toNat) = true ∧ left (kl x.toNat) = false)
theorem Coll.start (D : DataW Value) : Coll D (has D) [] := ⟨List.nodup_nil, fun x => by cases has D (kl x.toNat) <;> simp⟩
theorem Coll.step {D : DataW Value} {left : Lit → Bool} {ks : List UInt8} (h : Coll D left ks) {x : UInt8} {y : DataW Value} (hlk : left (kl x.toNat) = true) (hat : ∀ zd, D.atKey (kl x.toNat) zd = y) : Coll D (fun z => left z && !z.sameKey (kl x.toNat)) (ks ++ [x]) := by
  have hhas : has D (kl x.toNat) = true := has_true_of_atKey hat
  have hnew : x ∉ ks := fun hx => by have := ((h.2 x).1 hx).2; rw [hlk] at this; cases this
  refine ⟨List.nodup_append.2 ⟨h.1, by simp, fun a ha b hb => by simp at hb; subst hb; exact fun e => hnew (e ▸ ha)⟩, fun y => ?_⟩
  by_cases hy : y = x
  · subst hy
    have hy2 : (kl y.toNat).sameKey (kl y.toNat) = true := by simp [Lit.sameKey, kl]
    simp [hhas, hy2]
  · have hy' : ((y.toNat : Int) == (x.toNat : Int)) = false := by
      simp only [beq_eq_false_iff_ne, ne_eq]
      intro e
      exact hy (UInt8.toNat_inj.1 (by omega))
    have hy2 : (kl y.toNat).sameKey (kl x.toNat) = false := by
      simp [Lit.sameKey, kl]
      intro e
      exact hy (UInt8.toNat_inj.1 (by omega))
    simp [h.2 y, hy, hy2]
set_option maxRecDepth 100000 in
set_option maxHeartbeats 1000000 in
theorem keys1_any (nn : Nat) (hn : 1 ≤ nn) (l Bm b n : Nat) (D : DataW Value) (J : List UInt8 → World → Prop)
    (hY : ∀ pre x W, J pre W → pre.length < Maps.size D → YieldAt Fence.wide (nn - 1) Try.prog l #[bv x] W fun e W' => e = .returned (.bool true) ∧ J (pre ++ [x]) W' ∧ KeepsWalks W W')
    (W : World) (hJ : AbidesFrom W.heap.size J) (hm : W.cell? ⟨Bm, 0, none⟩ = some (.map (some b))) (hown : W.ownsMap Try.prog 5 hv b n D) (h0 : J [] W) :
    CallsIn Fence.wide nn Try.prog 41 #[.func (.yield l) #[] #[], .pointer (some ⟨Bm, 0, none⟩)] W fun e W' => (∃ v, e = .returned v) ∧ ∃ ks : List UInt8, (ks.Nodup ∧ ∀ x : UInt8, x ∈ ks ↔ has D (kl x.toNat) = true) ∧ J ks W' := by
  refine callsIn_of_wp Try.func41 rfl trivial ?_ rfl
  simp only [Try.ntmps41, List.size_toArray, List.length_cons, List.length_nil, Nat.reduceAdd, Nat.reduceSub, Array.replicate_succ, Array.replicate_zero, List.push_toArray, List.append_toArray, List.nil_append, List.cons_append]
  gi_wp2_with (first
    | (gi_at_range; refine wpListIn_range_own _ rfl _ 48 rfl 5 54 keyed8 Try.underlying48 hv b n _ rfl hown ?_; intro w0 hrg0 hg0 hs0)
    | gi_in)
  go_frame
  gi_loopw [3] (fun _ wr => ∃ (left : Lit → Bool) (cnt : Nat) (ks : List UInt8), wr.ranges Try.prog 5 hv b W.heap.size n D left cnt ∧ ks.length + cnt ≤ Maps.size D ∧ Coll D left ks ∧ J ks wr)
    (fun _ wr => wr.rangeLeft b W.heap.size)
  case atStart =>
    exact ⟨_, _, [], hrg0, by simp, Coll.start D, hJ [] W w0 none h0 hg0 (fun r e => by cases e)⟩
  case round =>
    obtain ⟨left, cnt, ks, hrg, hcs, hC, hJs⟩ := hrel
    gi_wp2_with (first
      | (gi_at_next; refine wpListIn_next_ranges _ rfl _ rfl 5 keyed8 hv bv id (fun key z hk => by obtain ⟨x, hx, _⟩ := keyOf8 hk; exact ⟨x, hx⟩) (fun v _ _ => ⟨v, rfl⟩) b W.heap.size n _ _ _ rfl hrg ?_ ?_)
      | gi_in)
    · intro hc0 hl0
      gi_wp2
      go_end0
      exact ⟨⟨_, rfl⟩, ks, ⟨hC.1, fun x => by rw [hC.2 x]; simp [hl0]⟩, hJs⟩
    · intro x c z yd yp w2 cnt2 hkey hlk hv hat hrg2 hlt hg2 hs2 hen
      obtain ⟨x', ex, rfl⟩ := keyOf8 hkey
      obtain rfl : x = x' := kl8_inj (by unfold bv at ex; unfold kl; injection ex with _ ex; rw [ex])
      have hJ2 : J ks w2 := hJ ks wr w2 (some W.heap.size) hJs hg2 (fun r e => by cases e; exact ⟨Nat.le_refl _, hrg.iter_walk⟩)
      obtain ⟨fn, tmps, assign, body, hy, hR⟩ := hY ks x w2 hJ2 (by omega)
      clear hs2
      unfold bv at hen hy
      gi_wp2
      refine hR.mono ?_
      rintro e W3 ⟨rfl, hJ3, hk3⟩
      gi_wp2
      have hrg3 := hrg2.of_walks hk3
      go_roundw
      case rel => exact ⟨_, cnt2, ks ++ [x], hrg3, by simp; omega, hC.step hlk hat, hJ3⟩
      case measure => rw [hrg3.left_eq, hrg.left_eq]; exact hlt
theorem keys_gives (nn : Nat) (hn : 1 ≤ nn) (Bm b n : Nat) (D : DataW Value) (w : World) (hBm : Bm < w.heap.size) (hm : w.cell? ⟨Bm, 0, none⟩ = some (.map (some b))) (hown : w.ownsMap Try.prog 5 hv b n D) :
    SeqGives Fence.wide nn Try.prog 41 #[.pointer (some ⟨Bm, 0, none⟩)] bv (fun ks => ks.Nodup ∧ ∀ x : UInt8, x ∈ ks ↔ has D (kl x.toNat) = true) (Maps.size D) w := fun l J W hW hJ hY h0 => by
  have hown' : W.ownsMap Try.prog 5 hv b n D := by
    have hbl := hown.lt
    obtain ⟨es, clock, hb, Ft, hs, hD⟩ := hown
    exact ⟨es, clock, (hW.block b hbl).trans hb, Ft, hs, hD⟩
  exact keys1_any nn hn l Bm b n D J hY W hJ ((hW.cell (p := ⟨Bm, 0, none⟩) hBm).trans hm) hown' h0
theorem keys_any (nn : Nat) (mb : Option Nat) (w : World) :
    CallsIn Fence.wide nn Try.prog 32 #[.map mb] w fun e w' => e = .returned (.func (.func 41) #[] #[.pointer (some ⟨w.heap.size, 0, none⟩)]) ∧ w' = w.alloc (.cells #[.map mb] 48) := by
  refine callsIn_of_wp Try.func32 rfl trivial ?_ rfl
  simp only [Try.ntmps32, List.size_toArray, List.length_cons, List.length_nil, Nat.reduceAdd, Nat.reduceSub, Array.replicate_succ, Array.replicate_zero, List.push_toArray, List.append_toArray, List.nil_append, List.cons_append]
  gi_wp2
  go_ret
  exact ⟨rfl, rfl⟩
/-- What holds between two rounds of AppendSeq. -/
def ApI (B0 : Nat) (w : World) (ks : List UInt8) (W : World) : Prop := (∃ v, W.heap[B0]? = some (.cells #[v] 26 (0, 0)) ∧ OB W (B0 + 1) v ks) ∧ Below w.heap.size w W ∧ B0 + 1 ≤ W.heap.size
theorem ApI.kept {B0 : Nat} {w W W' : World} {ks : List UInt8} (h : ApI B0 w ks W) {row : Option Nat} (hg : W.grownBy W' row) (hr : ∀ r, row = some r → w.heap.size ≤ r ∧ r ≠ B0 ∧ ∃ o, W.heap[r]? = some o ∧ o.isCells = false) : ApI B0 w ks W' := by
  obtain ⟨⟨v, h1, h2⟩, h3, h4⟩ := h
  refine ⟨⟨v, (hg.block _ (lt_of_block h1) (fun e => (hr _ e.symm).2.1 rfl)).trans h1, OBr.kept h2 hg (fun r e => .inr fun cur hcur => ?_)⟩, h3.grown hg h3.size (fun k e => (hr k e).1), Nat.le_trans h4 hg.size⟩
  obtain ⟨-, -, o, ho, hc⟩ := hr r e
  rw [ho] at hcur
  cases hcur
  cases hc
set_option maxRecDepth 100000 in
set_option maxHeartbeats 1000000 in
theorem appendSeq_any (nn : Nat) (hn : 2 ≤ nn) (g : Nat) (lb : Array Value) (eg : ∀ args w, (callFunc g args).run Try.prog w = .ok (.enter g args) w) (S : List UInt8 → Prop) (N : Nat) (hN : N ≤ 1048576) (w : World) (hseq : SeqGives Fence.wide (nn - 1) Try.prog g lb bv S N w) :
    CallsIn Fence.wide nn Try.prog 44 #[.slice none 0 0, .func (.func g) #[] lb] w fun e w' => ∃ v ks, e = .returned v ∧ S ks ∧ OB w' w.heap.size v ks ∧ Below w.heap.size w w' := by
  refine callsIn_of_wp_marks Try.func44 rfl trivial ?_ rfl
  simp only [Try.ntmps44, List.size_toArray, List.length_cons, List.length_nil, Nat.reduceAdd, Nat.reduceSub, Array.replicate_succ, Array.replicate_zero, List.push_toArray, List.append_toArray, List.nil_append, List.cons_append]
  have hb0 : Below w.heap.size w (w.alloc (.cells #[.slice none 0 0] 26)) := (Below.refl _ w).alloc (Nat.le_refl _) _
  have hk0 : (w.alloc (.cells #[.slice none 0 0] 26)).heap[w.heap.size]? = _ := alloc_new _ _ _ rfl
  have hs0 : (w.alloc (.cells #[.slice none 0 0] 26)).heap.size = w.heap.size + 1 := by simp
  have hseq2 := hseq.later hb0
  gi_wp2
  generalize hW0 : (w.alloc (.cells #[.slice none 0 0] 26)) = W0 at *
  refine wpIn_range_seq rfl (by omega) (gf := g) (lb := lb) rfl trivial eg rfl hseq2 (ApI w.heap.size w)
    (fun s W W' r o h hr ho hc hg => h.kept hg (fun r' e => by cases e; exact ⟨by omega, by omega, o, ho, hc⟩))
    (fun s W W' h hg => h.kept hg (fun r e => by cases e)) ⟨⟨_, hk0, OB.nil _ _⟩, hb0, by omega⟩
    (fun x => { tmps := #[.slice none 0 0, .func (.func g) #[] lb, .pointer (some ⟨w.heap.size, 0, none⟩), undef, .slice none 0 0, bv x, .func (.func g) #[] lb, bv x, undef, undef, undef, undef, undef], defers := [] }) ?assign ?body ?done
  case assign =>
    intro ll x W K hK
    gi_wp2
    exact hK
  case body =>
    rintro ll ks x W ⟨⟨v, h1, h2⟩, h3, h4⟩ hlen
    have gp := cell_blk h1
    have fp := free_blk h1
    have hrx : Rd (W.alloc (.cells #[bv x] 5)) (some ⟨W.heap.size, 0, none⟩) 1 [x] := Rd_lit W 5 [x] (fr := (0, 0)) (by simp [maxLen])
    have hB1 : Below W.heap.size W (W.alloc (.cells #[bv x] 5)) := (Below.refl _ W).alloc (Nat.le_refl _) _
    have h2' := h2.below hB1
    have hl1 := lt_of_block h1
    have H1 := Lib.hid h1
    have H2 := Lib.hid h2
    have H1' := Lib.hid (alloc_old h1 (.cells #[bv x] 5))
    have HRX := Lib.hid hrx
    have H2' := Lib.hid h2'
    have H3 := Lib.hid h3
    have HB1 := Lib.hid hB1
    clear h1 h2 hrx hB1 h2' h3 hseq hseq2 hb0 hk0 hW0
    unfold bv at H1' HRX H2' HB1 ⊢
    gi_wp2_with (gi_at_builtin; refine wpListIn_app _ rfl _ _ rfl (w.heap.size + 1) _ _ rfl H2'.out _ _ _ _ rfl HRX.out ?c1 ?c2 ?_)
    case c1 => omega
    case c2 => have := HB1.out.size; omega
    intro v6 w6 ho6 hg6 hat6
    obtain ⟨a6, c6, hv6, -⟩ := ho6.form
    rw [List.length_append, List.length_singleton] at hv6
    subst hv6
    have hne : ∀ r, v.ownBlock = some r → w.heap.size + 1 ≤ r := fun r e => OBr.base H2'.out r e
    have h6 := (hg6.block w.heap.size (by have := HB1.out.size; omega) (fun e => by have := hne _ e.symm; omega)).trans H1'.out
    have gp6 := cell_blk h6
    have fp6 := free_blk h6
    have HO6 := Lib.hid ho6
    have HG6 := Lib.hid hg6
    clear ho6 hg6 hat6 gp fp
    gi_wp2
    have g := grownBy_setCell0 w6 w.heap.size (.slice a6 (ks.length + 1) c6)
    have s1 := HB1.out.size
    have s6 := HG6.out.size
    refine ⟨((KeepsRec.of_below HB1.out).trans (KeepsRec.grown HG6.out (fun j o e ho => by obtain ⟨cur, hc⟩ := OBr.cells H2'.out j e; rw [hc] at ho; cases ho; rfl))).trans (KeepsRec.setCell _ _ _), ⟨⟨_, blk_setCell h6 0 _, OBr.kept HO6.out g (fun r e => by cases e; exact .inl (by omega))⟩, ?_, by have := g.size; omega⟩⟩
    have b1 := below_then H3.out HB1.out H3.out.size
    exact (b1.grown HG6.out b1.size (fun r e => by have := hne r e; omega)).grown g (by omega) (fun r e => by cases e; omega)
  case done =>
    rintro D W ks hD hS ⟨⟨v, h1, h2⟩, h3, h4⟩ hK
    have gp := cell_blk h1
    have hD' : w.heap.size ≤ D := by omega
    have h2m := h2.mono (show w.heap.size ≤ w.heap.size + 1 by omega)
    have g := grownBy_put1 W D (.deferred none)
    have ho := OBr.kept h2m g (fun r e => by cases e; exact .inr fun cur hcur => by rw [hK] at hcur; cases hcur)
    have hb := h3.grown g h3.size (fun r e => by cases e; exact hD')
    have HO := Lib.hid ho
    have HB := Lib.hid hb
    clear h1 h2 h3 h2m g ho hb hseq hseq2 hb0 hk0 hW0
    gi_wp2
    refine ⟨by simp, .inl ⟨_, _, rfl, run_takeDeferred hK, ?_⟩⟩
    exact ⟨_, results_tmp rfl _ _ _, v, ks, rfl, hS, HO.out, HB.out⟩
theorem collect_any (nn : Nat) (hn : 3 ≤ nn) (g : Nat) (lb : Array Value) (eg : ∀ args w, (callFunc g args).run Try.prog w = .ok (.enter g args) w) (S : List UInt8 → Prop) (N : Nat) (hN : N ≤ 1048576) (w : World) (hseq : SeqGives Fence.wide (nn - 1 - 1) Try.prog g lb bv S N w) :
    CallsIn Fence.wide nn Try.prog 39 #[.func (.func g) #[] lb] w fun e w' => ∃ v ks, e = .returned v ∧ S ks ∧ OB w' w.heap.size v ks ∧ Below w.heap.size w w' := by
  refine callsIn_of_wp Try.func39 rfl trivial ?_ rfl
  simp only [Try.ntmps39, List.size_toArray, List.length_cons, List.length_nil, Nat.reduceAdd, Nat.reduceSub, Array.replicate_succ, Array.replicate_zero, List.push_toArray, List.append_toArray, List.nil_append, List.cons_append]
  gi_wp2_with (refine ⟨trivial, fun _ => by omega, ?_⟩; gi_at_call 44; refine (appendSeq_any (nn - 1) (by omega) g lb eg S N hN _ hseq).mono ?_; rintro e w' ⟨v, ks, rfl, hS, ho, hb⟩)
  go_ret
  exact ⟨v, ks, rfl, hS, ho, hb⟩
end Go.Proofs.Ytleicgigkbfnbaa
