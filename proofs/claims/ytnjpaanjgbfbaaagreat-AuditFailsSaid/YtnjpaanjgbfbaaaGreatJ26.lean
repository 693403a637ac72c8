/- The walks of Choose. Printed by gen_spn.py. -/
import Derived.Test.YtnjpaanjgbfbaaaGreatJ25
import Derived.Test.YtnjpaanjgbfbaaaGreatJ09
namespace Go.Proofs.YtnjpaanjgbfbaaaGreat
set_option linter.unusedVariables false
set_option linter.unusedSimpArgs false
open Go.RowKit

def P.cI (l k : List UInt8) : Int := if P.sErr l = 0 ∧ (P.sErr k ≠ 0 ∨ (P.sSup l).g ≥ (P.sSup k).g) then 0 else if P.sErr k = 0 then 1 else -1
def P.cS (l k : List UInt8) : P.Sup := if P.cI l k = 0 then P.sSup l else if P.cI l k = 1 then P.sSup k else .zero
def P.cE (l k : List UInt8) : Int := if P.cI l k = -1 then 8 else 0
theorem P.pick_a (l k : List UInt8) (h : P.sErr l = 0 ∧ (P.sErr k ≠ 0 ∨ (P.sSup l).g ≥ (P.sSup k).g)) : P.cS l k = P.sSup l ∧ P.cI l k = 0 ∧ P.cE l k = 0 := by
  have e : P.cI l k = 0 := by unfold P.cI; rw [if_pos h]
  unfold P.cS P.cE
  simp [e]
theorem P.pick_b (l k : List UInt8) (h : ¬ (P.sErr l = 0 ∧ (P.sErr k ≠ 0 ∨ (P.sSup l).g ≥ (P.sSup k).g))) (h2 : P.sErr k = 0) : P.cS l k = P.sSup k ∧ P.cI l k = 1 ∧ P.cE l k = 0 := by
  have e : P.cI l k = 1 := by unfold P.cI; rw [if_neg h, if_pos h2]
  unfold P.cS P.cE
  simp [e]
theorem P.pick_n (l k : List UInt8) (h : P.sErr l ≠ 0) (h2 : P.sErr k ≠ 0) : P.cS l k = .zero ∧ P.cI l k = -1 ∧ P.cE l k = 8 := by
  have e : P.cI l k = -1 := by unfold P.cI; rw [if_neg (by simp [h]), if_neg h2]
  unfold P.cS P.cE
  simp [e]
theorem dec_fun (a : Option Addr) (len cap : Nat) (l : List UInt8) (w : World) (hr : Rd w a len l) (hc : len ≤ cap) :
    Calls Tryz.prog 57 #[.slice a len cap] w fun e w' => e = .returned (.tuple #[supV (P.sSup l), .int .i64 (P.sErr l)]) ∧ Below w.heap.size w w' := by
  by_cases h : P.openErr l = 0
  · exact dec_body a len cap l w hr hc h
  · rw [(P.sErr_open h).1, (P.sErr_open h).2]
    exact dec_open a len cap l w hr hc h
set_option maxRecDepth 100000 in
set_option maxHeartbeats 800000 in
theorem choose_any1 (a1 : Option Addr) (n1 m1 : Nat) (l : List UInt8) (a2 : Option Addr) (n2 m2 : Nat) (k : List UInt8) (w : World) (hr : Rd w a1 n1 l) (hc : n1 ≤ m1) (hr2 : Rd w a2 n2 k) (hc2 : n2 ≤ m2)
    (ne1 : (P.sErr l == 0) = true) (nn1 : (P.sErr l != 0) = false) (ne2 : (P.sErr k == 0) = true) (nn2 : (P.sErr k != 0) = false) (h3 : decide ((P.sSup l).g ≥ (P.sSup k).g) = false) :
    Calls Tryz.prog 43 #[.slice a1 n1 m1, .slice a2 n2 m2] w fun e w' => e = .returned (.tuple #[supV (P.sSup k), .int .i64 1, .int .i64 0]) ∧ Below w.heap.size w w' := by
  have HD1 := Lib.hid (fun w1 (h : Rd w1 a1 n1 l) => dec_fun a1 n1 m1 l w1 h hc)
  have HD2 := Lib.hid (fun w1 (h : Rd w1 a2 n2 k) => dec_fun a2 n2 m2 k w1 h hc2)
  have HR1 := Lib.hid hr
  have HR2 := Lib.hid hr2
  generalize P.sErr l = e1 at *
  generalize P.sErr k = e2 at *
  generalize P.sSup l = x at *
  generalize P.sSup k = y at *
  unfold supV at HD1 HD2
  unfold supV
  try simp only
  clear hr hr2
  go_enter Tryz.func43, Tryz.ntmps43
  go_wp2_with fail
  refine (HD1.out _ (HR1.out.below ((Below.refl _ w).alloc (Nat.le_refl _) _))).mono ?_
  rintro e w1 ⟨rfl, hb1⟩
  have hb := below_alloc1 hb1
  have hB1 := made_below hb1
  have hlt : w.heap.size < w1.heap.size := lt_of_block hB1
  have HB1 := Lib.hid hB1
  clear hb1 hB1
  go_wp2_with fail
  have hbp : Below w1.heap.size w1 (w1.alloc (.cells #[.int .i64 x.g, .int .i64 x.p, .int .i64 x.r, .int .i64 x.h, .int .i64 x.b, .int .i64 x.l, .int .i64 x.s, .int .i64 x.f] 25)) := (Below.refl _ w1).alloc (Nat.le_refl _) _
  have hbn : (w1.alloc (.cells #[.int .i64 x.g, .int .i64 x.p, .int .i64 x.r, .int .i64 x.h, .int .i64 x.b, .int .i64 x.l, .int .i64 x.s, .int .i64 x.f] 25)).heap[w1.heap.size]? = _ := alloc_new _ _ _ rfl
  generalize w1.alloc (.cells #[.int .i64 x.g, .int .i64 x.p, .int .i64 x.r, .int .i64 x.h, .int .i64 x.b, .int .i64 x.l, .int .i64 x.s, .int .i64 x.f] 25) = w2 at *
  refine (HD2.out _ (HR2.out.below (hb.trans (hbp.mono (by omega))))).mono ?_
  rintro e w3 ⟨rfl, hb3⟩
  have hx3 := cell_blk ((hb3.block _ (lt_of_block hbn)).trans hbn)
  have hlt2 : w1.heap.size < w2.heap.size := lt_of_block hbn
  have hB3 := (hb3.block _ (by omega : w.heap.size < w2.heap.size)).trans ((hbp.block _ hlt).trans HB1.out)
  have hlt3 : w1.heap.size < w3.heap.size := by have := hb3.size; omega
  have hlt4 : w.heap.size < w3.heap.size := by omega
  have hb4 := below_then hb hbp hb.size
  have hb5 := below_then hb4 hb3 hb4.size
  have cl := cell_blk hB3
  have fz := free_blk hB3
  have HB3 := Lib.hid hB3
  have hne : w1.heap.size ≠ w.heap.size := by omega
  have hne3 : w3.heap.size ≠ w.heap.size := by omega
  clear hB3 hbn
  go_wp2
  generalize hW2 : World.alloc _ _ = W2
  have hb2 : Below w.heap.size w W2 := by rw [← hW2]; exact set8 hb5 _ _ _ _ _ _ _ _ _ hb5.size
  have cl2 := cell_blk (show W2.heap[w.heap.size]? = _ by rw [← hW2]; exact alloc_old (blk8 HB3.out _ _ _ _ _ _ _ _) _)
  exact bodyPost_ret (v := .tuple #[.agg #[.int .i64 y.g, .int .i64 y.p, .int .i64 y.r, .int .i64 y.h, .int .i64 y.b, .int .i64 y.l, .int .i64 y.s, .int .i64 y.f], .int .i64 1, .int .i64 0]) (by simp [results, Tryz.results43, go_sem, cl2]) rfl ⟨rfl, hb2⟩
set_option maxRecDepth 100000 in
set_option maxHeartbeats 800000 in
theorem choose_any2 (a1 : Option Addr) (n1 m1 : Nat) (l : List UInt8) (a2 : Option Addr) (n2 m2 : Nat) (k : List UInt8) (w : World) (hr : Rd w a1 n1 l) (hc : n1 ≤ m1) (hr2 : Rd w a2 n2 k) (hc2 : n2 ≤ m2)
    (ne1 : (P.sErr l == 0) = true) (nn1 : (P.sErr l != 0) = false) (ne2 : (P.sErr k == 0) = true) (nn2 : (P.sErr k != 0) = false) (h3 : decide ((P.sSup l).g ≥ (P.sSup k).g) = true) :
    Calls Tryz.prog 43 #[.slice a1 n1 m1, .slice a2 n2 m2] w fun e w' => e = .returned (.tuple #[supV (P.sSup l), .int .i64 0, .int .i64 0]) ∧ Below w.heap.size w w' := by
  have HD1 := Lib.hid (fun w1 (h : Rd w1 a1 n1 l) => dec_fun a1 n1 m1 l w1 h hc)
  have HD2 := Lib.hid (fun w1 (h : Rd w1 a2 n2 k) => dec_fun a2 n2 m2 k w1 h hc2)
  have HR1 := Lib.hid hr
  have HR2 := Lib.hid hr2
  generalize P.sErr l = e1 at *
  generalize P.sErr k = e2 at *
  generalize P.sSup l = x at *
  generalize P.sSup k = y at *
  unfold supV at HD1 HD2
  unfold supV
  try simp only
  clear hr hr2
  go_enter Tryz.func43, Tryz.ntmps43
  go_wp2_with fail
  refine (HD1.out _ (HR1.out.below ((Below.refl _ w).alloc (Nat.le_refl _) _))).mono ?_
  rintro e w1 ⟨rfl, hb1⟩
  have hb := below_alloc1 hb1
  have hB1 := made_below hb1
  have hlt : w.heap.size < w1.heap.size := lt_of_block hB1
  have HB1 := Lib.hid hB1
  clear hb1 hB1
  go_wp2_with fail
  have hbp : Below w1.heap.size w1 (w1.alloc (.cells #[.int .i64 x.g, .int .i64 x.p, .int .i64 x.r, .int .i64 x.h, .int .i64 x.b, .int .i64 x.l, .int .i64 x.s, .int .i64 x.f] 25)) := (Below.refl _ w1).alloc (Nat.le_refl _) _
  have hbn : (w1.alloc (.cells #[.int .i64 x.g, .int .i64 x.p, .int .i64 x.r, .int .i64 x.h, .int .i64 x.b, .int .i64 x.l, .int .i64 x.s, .int .i64 x.f] 25)).heap[w1.heap.size]? = _ := alloc_new _ _ _ rfl
  generalize w1.alloc (.cells #[.int .i64 x.g, .int .i64 x.p, .int .i64 x.r, .int .i64 x.h, .int .i64 x.b, .int .i64 x.l, .int .i64 x.s, .int .i64 x.f] 25) = w2 at *
  refine (HD2.out _ (HR2.out.below (hb.trans (hbp.mono (by omega))))).mono ?_
  rintro e w3 ⟨rfl, hb3⟩
  have hx3 := cell_blk ((hb3.block _ (lt_of_block hbn)).trans hbn)
  have hlt2 : w1.heap.size < w2.heap.size := lt_of_block hbn
  have hB3 := (hb3.block _ (by omega : w.heap.size < w2.heap.size)).trans ((hbp.block _ hlt).trans HB1.out)
  have hlt3 : w1.heap.size < w3.heap.size := by have := hb3.size; omega
  have hlt4 : w.heap.size < w3.heap.size := by omega
  have hb4 := below_then hb hbp hb.size
  have hb5 := below_then hb4 hb3 hb4.size
  have cl := cell_blk hB3
  have fz := free_blk hB3
  have HB3 := Lib.hid hB3
  have hne : w1.heap.size ≠ w.heap.size := by omega
  have hne3 : w3.heap.size ≠ w.heap.size := by omega
  clear hB3 hbn
  go_wp2
  generalize hW2 : World.alloc _ _ = W2
  have hb2 : Below w.heap.size w W2 := by rw [← hW2]; exact set8 hb5 _ _ _ _ _ _ _ _ _ hb5.size
  have cl2 := cell_blk (show W2.heap[w.heap.size]? = _ by rw [← hW2]; exact alloc_old (blk8 HB3.out _ _ _ _ _ _ _ _) _)
  exact bodyPost_ret (v := .tuple #[.agg #[.int .i64 x.g, .int .i64 x.p, .int .i64 x.r, .int .i64 x.h, .int .i64 x.b, .int .i64 x.l, .int .i64 x.s, .int .i64 x.f], .int .i64 0, .int .i64 0]) (by simp [results, Tryz.results43, go_sem, cl2]) rfl ⟨rfl, hb2⟩
set_option maxRecDepth 100000 in
set_option maxHeartbeats 800000 in
theorem choose_any3 (a1 : Option Addr) (n1 m1 : Nat) (l : List UInt8) (a2 : Option Addr) (n2 m2 : Nat) (k : List UInt8) (w : World) (hr : Rd w a1 n1 l) (hc : n1 ≤ m1) (hr2 : Rd w a2 n2 k) (hc2 : n2 ≤ m2)
    (ne1 : (P.sErr l == 0) = true) (nn1 : (P.sErr l != 0) = false) (ne2 : (P.sErr k == 0) = false) (nn2 : (P.sErr k != 0) = true) :
    Calls Tryz.prog 43 #[.slice a1 n1 m1, .slice a2 n2 m2] w fun e w' => e = .returned (.tuple #[supV (P.sSup l), .int .i64 0, .int .i64 0]) ∧ Below w.heap.size w w' := by
  have HD1 := Lib.hid (fun w1 (h : Rd w1 a1 n1 l) => dec_fun a1 n1 m1 l w1 h hc)
  have HD2 := Lib.hid (fun w1 (h : Rd w1 a2 n2 k) => dec_fun a2 n2 m2 k w1 h hc2)
  have HR1 := Lib.hid hr
  have HR2 := Lib.hid hr2
  generalize P.sErr l = e1 at *
  generalize P.sErr k = e2 at *
  generalize P.sSup l = x at *
  generalize P.sSup k = y at *
  unfold supV at HD1 HD2
  unfold supV
  try simp only
  clear hr hr2
  go_enter Tryz.func43, Tryz.ntmps43
  go_wp2_with fail
  refine (HD1.out _ (HR1.out.below ((Below.refl _ w).alloc (Nat.le_refl _) _))).mono ?_
  rintro e w1 ⟨rfl, hb1⟩
  have hb := below_alloc1 hb1
  have hB1 := made_below hb1
  have hlt : w.heap.size < w1.heap.size := lt_of_block hB1
  have HB1 := Lib.hid hB1
  clear hb1 hB1
  go_wp2_with fail
  have hbp : Below w1.heap.size w1 (w1.alloc (.cells #[.int .i64 x.g, .int .i64 x.p, .int .i64 x.r, .int .i64 x.h, .int .i64 x.b, .int .i64 x.l, .int .i64 x.s, .int .i64 x.f] 25)) := (Below.refl _ w1).alloc (Nat.le_refl _) _
  have hbn : (w1.alloc (.cells #[.int .i64 x.g, .int .i64 x.p, .int .i64 x.r, .int .i64 x.h, .int .i64 x.b, .int .i64 x.l, .int .i64 x.s, .int .i64 x.f] 25)).heap[w1.heap.size]? = _ := alloc_new _ _ _ rfl
  generalize w1.alloc (.cells #[.int .i64 x.g, .int .i64 x.p, .int .i64 x.r, .int .i64 x.h, .int .i64 x.b, .int .i64 x.l, .int .i64 x.s, .int .i64 x.f] 25) = w2 at *
  refine (HD2.out _ (HR2.out.below (hb.trans (hbp.mono (by omega))))).mono ?_
  rintro e w3 ⟨rfl, hb3⟩
  have hx3 := cell_blk ((hb3.block _ (lt_of_block hbn)).trans hbn)
  have hlt2 : w1.heap.size < w2.heap.size := lt_of_block hbn
  have hB3 := (hb3.block _ (by omega : w.heap.size < w2.heap.size)).trans ((hbp.block _ hlt).trans HB1.out)
  have hlt3 : w1.heap.size < w3.heap.size := by have := hb3.size; omega
  have hlt4 : w.heap.size < w3.heap.size := by omega
  have hb4 := below_then hb hbp hb.size
  have hb5 := below_then hb4 hb3 hb4.size
  have cl := cell_blk hB3
  have fz := free_blk hB3
  have HB3 := Lib.hid hB3
  have hne : w1.heap.size ≠ w.heap.size := by omega
  have hne3 : w3.heap.size ≠ w.heap.size := by omega
  clear hB3 hbn
  go_wp2
  generalize hW2 : World.alloc _ _ = W2
  have hb2 : Below w.heap.size w W2 := by rw [← hW2]; exact set8 hb5 _ _ _ _ _ _ _ _ _ hb5.size
  have cl2 := cell_blk (show W2.heap[w.heap.size]? = _ by rw [← hW2]; exact alloc_old (blk8 HB3.out _ _ _ _ _ _ _ _) _)
  exact bodyPost_ret (v := .tuple #[.agg #[.int .i64 x.g, .int .i64 x.p, .int .i64 x.r, .int .i64 x.h, .int .i64 x.b, .int .i64 x.l, .int .i64 x.s, .int .i64 x.f], .int .i64 0, .int .i64 0]) (by simp [results, Tryz.results43, go_sem, cl2]) rfl ⟨rfl, hb2⟩
set_option maxRecDepth 100000 in
set_option maxHeartbeats 800000 in
theorem choose_any4 (a1 : Option Addr) (n1 m1 : Nat) (l : List UInt8) (a2 : Option Addr) (n2 m2 : Nat) (k : List UInt8) (w : World) (hr : Rd w a1 n1 l) (hc : n1 ≤ m1) (hr2 : Rd w a2 n2 k) (hc2 : n2 ≤ m2)
    (ne1 : (P.sErr l == 0) = false) (nn1 : (P.sErr l != 0) = true) (ne2 : (P.sErr k == 0) = true) (nn2 : (P.sErr k != 0) = false) :
    Calls Tryz.prog 43 #[.slice a1 n1 m1, .slice a2 n2 m2] w fun e w' => e = .returned (.tuple #[supV (P.sSup k), .int .i64 1, .int .i64 0]) ∧ Below w.heap.size w w' := by
  have HD1 := Lib.hid (fun w1 (h : Rd w1 a1 n1 l) => dec_fun a1 n1 m1 l w1 h hc)
  have HD2 := Lib.hid (fun w1 (h : Rd w1 a2 n2 k) => dec_fun a2 n2 m2 k w1 h hc2)
  have HR1 := Lib.hid hr
  have HR2 := Lib.hid hr2
  generalize P.sErr l = e1 at *
  generalize P.sErr k = e2 at *
  generalize P.sSup l = x at *
  generalize P.sSup k = y at *
  unfold supV at HD1 HD2
  unfold supV
  try simp only
  clear hr hr2
  go_enter Tryz.func43, Tryz.ntmps43
  go_wp2_with fail
  refine (HD1.out _ (HR1.out.below ((Below.refl _ w).alloc (Nat.le_refl _) _))).mono ?_
  rintro e w1 ⟨rfl, hb1⟩
  have hb := below_alloc1 hb1
  have hB1 := made_below hb1
  have hlt : w.heap.size < w1.heap.size := lt_of_block hB1
  have HB1 := Lib.hid hB1
  clear hb1 hB1
  go_wp2_with fail
  have hbp : Below w1.heap.size w1 (w1.alloc (.cells #[.int .i64 x.g, .int .i64 x.p, .int .i64 x.r, .int .i64 x.h, .int .i64 x.b, .int .i64 x.l, .int .i64 x.s, .int .i64 x.f] 25)) := (Below.refl _ w1).alloc (Nat.le_refl _) _
  have hbn : (w1.alloc (.cells #[.int .i64 x.g, .int .i64 x.p, .int .i64 x.r, .int .i64 x.h, .int .i64 x.b, .int .i64 x.l, .int .i64 x.s, .int .i64 x.f] 25)).heap[w1.heap.size]? = _ := alloc_new _ _ _ rfl
  generalize w1.alloc (.cells #[.int .i64 x.g, .int .i64 x.p, .int .i64 x.r, .int .i64 x.h, .int .i64 x.b, .int .i64 x.l, .int .i64 x.s, .int .i64 x.f] 25) = w2 at *
  refine (HD2.out _ (HR2.out.below (hb.trans (hbp.mono (by omega))))).mono ?_
  rintro e w3 ⟨rfl, hb3⟩
  have hx3 := cell_blk ((hb3.block _ (lt_of_block hbn)).trans hbn)
  have hlt2 : w1.heap.size < w2.heap.size := lt_of_block hbn
  have hB3 := (hb3.block _ (by omega : w.heap.size < w2.heap.size)).trans ((hbp.block _ hlt).trans HB1.out)
  have hlt3 : w1.heap.size < w3.heap.size := by have := hb3.size; omega
  have hlt4 : w.heap.size < w3.heap.size := by omega
  have hb4 := below_then hb hbp hb.size
  have hb5 := below_then hb4 hb3 hb4.size
  have cl := cell_blk hB3
  have fz := free_blk hB3
  have HB3 := Lib.hid hB3
  have hne : w1.heap.size ≠ w.heap.size := by omega
  have hne3 : w3.heap.size ≠ w.heap.size := by omega
  clear hB3 hbn
  go_wp2
  generalize hW2 : World.alloc _ _ = W2
  have hb2 : Below w.heap.size w W2 := by rw [← hW2]; exact set8 hb5 _ _ _ _ _ _ _ _ _ hb5.size
  have cl2 := cell_blk (show W2.heap[w.heap.size]? = _ by rw [← hW2]; exact alloc_old (blk8 HB3.out _ _ _ _ _ _ _ _) _)
  exact bodyPost_ret (v := .tuple #[.agg #[.int .i64 y.g, .int .i64 y.p, .int .i64 y.r, .int .i64 y.h, .int .i64 y.b, .int .i64 y.l, .int .i64 y.s, .int .i64 y.f], .int .i64 1, .int .i64 0]) (by simp [results, Tryz.results43, go_sem, cl2]) rfl ⟨rfl, hb2⟩
set_option maxRecDepth 100000 in
set_option maxHeartbeats 800000 in
theorem choose_any5 (a1 : Option Addr) (n1 m1 : Nat) (l : List UInt8) (a2 : Option Addr) (n2 m2 : Nat) (k : List UInt8) (w : World) (hr : Rd w a1 n1 l) (hc : n1 ≤ m1) (hr2 : Rd w a2 n2 k) (hc2 : n2 ≤ m2)
    (ne1 : (P.sErr l == 0) = false) (nn1 : (P.sErr l != 0) = true) (ne2 : (P.sErr k == 0) = false) (nn2 : (P.sErr k != 0) = true) :
    Calls Tryz.prog 43 #[.slice a1 n1 m1, .slice a2 n2 m2] w fun e w' => e = .returned (.tuple #[supV P.Sup.zero, .int .i64 (-1), .int .i64 8]) ∧ Below w.heap.size w w' := by
  have HD1 := Lib.hid (fun w1 (h : Rd w1 a1 n1 l) => dec_fun a1 n1 m1 l w1 h hc)
  have HD2 := Lib.hid (fun w1 (h : Rd w1 a2 n2 k) => dec_fun a2 n2 m2 k w1 h hc2)
  have HR1 := Lib.hid hr
  have HR2 := Lib.hid hr2
  generalize P.sErr l = e1 at *
  generalize P.sErr k = e2 at *
  generalize P.sSup l = x at *
  generalize P.sSup k = y at *
  unfold supV at HD1 HD2
  unfold supV P.Sup.zero
  try simp only
  clear hr hr2
  go_enter Tryz.func43, Tryz.ntmps43
  go_wp2_with fail
  refine (HD1.out _ (HR1.out.below ((Below.refl _ w).alloc (Nat.le_refl _) _))).mono ?_
  rintro e w1 ⟨rfl, hb1⟩
  have hb := below_alloc1 hb1
  have hB1 := made_below hb1
  have hlt : w.heap.size < w1.heap.size := lt_of_block hB1
  have HB1 := Lib.hid hB1
  clear hb1 hB1
  go_wp2_with fail
  have hbp : Below w1.heap.size w1 (w1.alloc (.cells #[.int .i64 x.g, .int .i64 x.p, .int .i64 x.r, .int .i64 x.h, .int .i64 x.b, .int .i64 x.l, .int .i64 x.s, .int .i64 x.f] 25)) := (Below.refl _ w1).alloc (Nat.le_refl _) _
  have hbn : (w1.alloc (.cells #[.int .i64 x.g, .int .i64 x.p, .int .i64 x.r, .int .i64 x.h, .int .i64 x.b, .int .i64 x.l, .int .i64 x.s, .int .i64 x.f] 25)).heap[w1.heap.size]? = _ := alloc_new _ _ _ rfl
  generalize w1.alloc (.cells #[.int .i64 x.g, .int .i64 x.p, .int .i64 x.r, .int .i64 x.h, .int .i64 x.b, .int .i64 x.l, .int .i64 x.s, .int .i64 x.f] 25) = w2 at *
  refine (HD2.out _ (HR2.out.below (hb.trans (hbp.mono (by omega))))).mono ?_
  rintro e w3 ⟨rfl, hb3⟩
  have hx3 := cell_blk ((hb3.block _ (lt_of_block hbn)).trans hbn)
  have hlt2 : w1.heap.size < w2.heap.size := lt_of_block hbn
  have hB3 := (hb3.block _ (by omega : w.heap.size < w2.heap.size)).trans ((hbp.block _ hlt).trans HB1.out)
  have hlt3 : w1.heap.size < w3.heap.size := by have := hb3.size; omega
  have hlt4 : w.heap.size < w3.heap.size := by omega
  have hb4 := below_then hb hbp hb.size
  have hb5 := below_then hb4 hb3 hb4.size
  have cl := cell_blk hB3
  have fz := free_blk hB3
  have HB3 := Lib.hid hB3
  have hne : w1.heap.size ≠ w.heap.size := by omega
  have hne3 : w3.heap.size ≠ w.heap.size := by omega
  clear hB3 hbn
  go_wp2
  generalize hW2 : World.alloc _ _ = W2
  have hb2 : Below w.heap.size w W2 := by rw [← hW2]; exact set8 hb5 _ _ _ _ _ _ _ _ _ hb5.size
  have cl2 := cell_blk (show W2.heap[w.heap.size]? = _ by rw [← hW2]; exact alloc_old (blk8 HB3.out _ _ _ _ _ _ _ _) _)
  exact bodyPost_ret (v := .tuple #[.agg #[.int .i64 0, .int .i64 0, .int .i64 0, .int .i64 0, .int .i64 0, .int .i64 0, .int .i64 0, .int .i64 0], .int .i64 (-1), .int .i64 8]) (by simp [results, Tryz.results43, go_sem, cl2]) rfl ⟨rfl, hb2⟩
theorem choose_any (a1 : Option Addr) (n1 m1 : Nat) (l : List UInt8) (a2 : Option Addr) (n2 m2 : Nat) (k : List UInt8) (w : World) (hr : Rd w a1 n1 l) (hc : n1 ≤ m1) (hr2 : Rd w a2 n2 k) (hc2 : n2 ≤ m2) :
    Calls Tryz.prog 43 #[.slice a1 n1 m1, .slice a2 n2 m2] w fun e w' => e = .returned (.tuple #[supV (P.cS l k), .int .i64 (P.cI l k), .int .i64 (P.cE l k)]) ∧ Below w.heap.size w w' := by
  by_cases h1 : P.sErr l = 0 <;> by_cases h2 : P.sErr k = 0
  · have b1 : (P.sErr l == 0) = true := by simpa using h1
    have b2 : (P.sErr l != 0) = false := by simpa using h1
    have b3 : (P.sErr k == 0) = true := by simpa using h2
    have b4 : (P.sErr k != 0) = false := by simpa using h2
    rcases h3 : decide ((P.sSup l).g ≥ (P.sSup k).g) with _ | _
    · obtain ⟨e1, e2, e3⟩ := P.pick_b l k (by have := of_decide_eq_false h3; omega) h2
      rw [e1, e2, e3]
      exact choose_any1 a1 n1 m1 l a2 n2 m2 k w hr hc hr2 hc2 b1 b2 b3 b4 h3
    · obtain ⟨e1, e2, e3⟩ := P.pick_a l k ⟨h1, .inr (of_decide_eq_true h3)⟩
      rw [e1, e2, e3]
      exact choose_any2 a1 n1 m1 l a2 n2 m2 k w hr hc hr2 hc2 b1 b2 b3 b4 h3
  · have b1 : (P.sErr l == 0) = true := by simpa using h1
    have b2 : (P.sErr l != 0) = false := by simpa using h1
    have b3 : (P.sErr k == 0) = false := by simpa using h2
    have b4 : (P.sErr k != 0) = true := by simpa using h2
    obtain ⟨e1, e2, e3⟩ := P.pick_a l k ⟨h1, .inl h2⟩
    rw [e1, e2, e3]
    exact choose_any3 a1 n1 m1 l a2 n2 m2 k w hr hc hr2 hc2 b1 b2 b3 b4
  · have b1 : (P.sErr l == 0) = false := by simpa using h1
    have b2 : (P.sErr l != 0) = true := by simpa using h1
    have b3 : (P.sErr k == 0) = true := by simpa using h2
    have b4 : (P.sErr k != 0) = false := by simpa using h2
    obtain ⟨e1, e2, e3⟩ := P.pick_b l k (by omega) h2
    rw [e1, e2, e3]
    exact choose_any4 a1 n1 m1 l a2 n2 m2 k w hr hc hr2 hc2 b1 b2 b3 b4
  · have b1 : (P.sErr l == 0) = false := by simpa using h1
    have b2 : (P.sErr l != 0) = true := by simpa using h1
    have b3 : (P.sErr k == 0) = false := by simpa using h2
    have b4 : (P.sErr k != 0) = true := by simpa using h2
    obtain ⟨e1, e2, e3⟩ := P.pick_n l k h1 h2
    rw [e1, e2, e3]
    exact choose_any5 a1 n1 m1 l a2 n2 m2 k w hr hc hr2 hc2 b1 b2 b3 b4
set_option maxRecDepth 100000 in
set_option maxHeartbeats 800000 in
theorem rchoose_any1 (a1 : Option Addr) (n1 m1 : Nat) (l : List UInt8) (a2 : Option Addr) (n2 m2 : Nat) (k : List UInt8) (w : World) (hr : Rd w a1 n1 l) (hc : n1 ≤ m1) (hr2 : Rd w a2 n2 k) (hc2 : n2 ≤ m2)
    (ne1 : (P.sErr l == 0) = true) (nn1 : (P.sErr l != 0) = false) (ne2 : (P.sErr k == 0) = true) (nn2 : (P.sErr k != 0) = false) (h3 : decide ((P.sSup l).g ≥ (P.sSup k).g) = false) :
    Calls Tryz.prog 28 #[.slice a1 n1 m1, .slice a2 n2 m2] w fun e w' => e = .returned (.tuple #[supV (P.sSup k), .int .i64 1, .int .i64 0]) ∧ Below w.heap.size w w' := by
  have HD1 := Lib.hid (fun w1 (h : Rd w1 a1 n1 l) => rdec_fun a1 n1 m1 l w1 h hc)
  have HD2 := Lib.hid (fun w1 (h : Rd w1 a2 n2 k) => rdec_fun a2 n2 m2 k w1 h hc2)
  have HR1 := Lib.hid hr
  have HR2 := Lib.hid hr2
  generalize P.sErr l = e1 at *
  generalize P.sErr k = e2 at *
  generalize P.sSup l = x at *
  generalize P.sSup k = y at *
  unfold supV at HD1 HD2
  unfold supV
  try simp only
  clear hr hr2
  go_enter Tryz.func28, Tryz.ntmps28
  go_wp2_with fail
  refine (HD1.out _ (HR1.out.below ((Below.refl _ w).alloc (Nat.le_refl _) _))).mono ?_
  rintro e w1 ⟨rfl, hb1⟩
  have hb := below_alloc1 hb1
  have hB1 := made_below hb1
  have hlt : w.heap.size < w1.heap.size := lt_of_block hB1
  have HB1 := Lib.hid hB1
  clear hb1 hB1
  go_wp2_with fail
  have hbp : Below w1.heap.size w1 (w1.alloc (.cells #[.int .i64 x.g, .int .i64 x.p, .int .i64 x.r, .int .i64 x.h, .int .i64 x.b, .int .i64 x.l, .int .i64 x.s, .int .i64 x.f] 25)) := (Below.refl _ w1).alloc (Nat.le_refl _) _
  have hbn : (w1.alloc (.cells #[.int .i64 x.g, .int .i64 x.p, .int .i64 x.r, .int .i64 x.h, .int .i64 x.b, .int .i64 x.l, .int .i64 x.s, .int .i64 x.f] 25)).heap[w1.heap.size]? = _ := alloc_new _ _ _ rfl
  generalize w1.alloc (.cells #[.int .i64 x.g, .int .i64 x.p, .int .i64 x.r, .int .i64 x.h, .int .i64 x.b, .int .i64 x.l, .int .i64 x.s, .int .i64 x.f] 25) = w2 at *
  refine (HD2.out _ (HR2.out.below (hb.trans (hbp.mono (by omega))))).mono ?_
  rintro e w3 ⟨rfl, hb3⟩
  have hx3 := cell_blk ((hb3.block _ (lt_of_block hbn)).trans hbn)
  have hlt2 : w1.heap.size < w2.heap.size := lt_of_block hbn
  have hB3 := (hb3.block _ (by omega : w.heap.size < w2.heap.size)).trans ((hbp.block _ hlt).trans HB1.out)
  have hlt3 : w1.heap.size < w3.heap.size := by have := hb3.size; omega
  have hlt4 : w.heap.size < w3.heap.size := by omega
  have hb4 := below_then hb hbp hb.size
  have hb5 := below_then hb4 hb3 hb4.size
  have cl := cell_blk hB3
  have fz := free_blk hB3
  have HB3 := Lib.hid hB3
  have hne : w1.heap.size ≠ w.heap.size := by omega
  have hne3 : w3.heap.size ≠ w.heap.size := by omega
  clear hB3 hbn
  go_wp2
  generalize hW2 : World.alloc _ _ = W2
  have hb2 : Below w.heap.size w W2 := by rw [← hW2]; exact set8 hb5 _ _ _ _ _ _ _ _ _ hb5.size
  have cl2 := cell_blk (show W2.heap[w.heap.size]? = _ by rw [← hW2]; exact alloc_old (blk8 HB3.out _ _ _ _ _ _ _ _) _)
  exact bodyPost_ret (v := .tuple #[.agg #[.int .i64 y.g, .int .i64 y.p, .int .i64 y.r, .int .i64 y.h, .int .i64 y.b, .int .i64 y.l, .int .i64 y.s, .int .i64 y.f], .int .i64 1, .int .i64 0]) (by simp [results, Tryz.results28, go_sem, cl2]) rfl ⟨rfl, hb2⟩
set_option maxRecDepth 100000 in
set_option maxHeartbeats 800000 in
theorem rchoose_any2 (a1 : Option Addr) (n1 m1 : Nat) (l : List UInt8) (a2 : Option Addr) (n2 m2 : Nat) (k : List UInt8) (w : World) (hr : Rd w a1 n1 l) (hc : n1 ≤ m1) (hr2 : Rd w a2 n2 k) (hc2 : n2 ≤ m2)
    (ne1 : (P.sErr l == 0) = true) (nn1 : (P.sErr l != 0) = false) (ne2 : (P.sErr k == 0) = true) (nn2 : (P.sErr k != 0) = false) (h3 : decide ((P.sSup l).g ≥ (P.sSup k).g) = true) :
    Calls Tryz.prog 28 #[.slice a1 n1 m1, .slice a2 n2 m2] w fun e w' => e = .returned (.tuple #[supV (P.sSup l), .int .i64 0, .int .i64 0]) ∧ Below w.heap.size w w' := by
  have HD1 := Lib.hid (fun w1 (h : Rd w1 a1 n1 l) => rdec_fun a1 n1 m1 l w1 h hc)
  have HD2 := Lib.hid (fun w1 (h : Rd w1 a2 n2 k) => rdec_fun a2 n2 m2 k w1 h hc2)
  have HR1 := Lib.hid hr
  have HR2 := Lib.hid hr2
  generalize P.sErr l = e1 at *
  generalize P.sErr k = e2 at *
  generalize P.sSup l = x at *
  generalize P.sSup k = y at *
  unfold supV at HD1 HD2
  unfold supV
  try simp only
  clear hr hr2
  go_enter Tryz.func28, Tryz.ntmps28
  go_wp2_with fail
  refine (HD1.out _ (HR1.out.below ((Below.refl _ w).alloc (Nat.le_refl _) _))).mono ?_
  rintro e w1 ⟨rfl, hb1⟩
  have hb := below_alloc1 hb1
  have hB1 := made_below hb1
  have hlt : w.heap.size < w1.heap.size := lt_of_block hB1
  have HB1 := Lib.hid hB1
  clear hb1 hB1
  go_wp2_with fail
  have hbp : Below w1.heap.size w1 (w1.alloc (.cells #[.int .i64 x.g, .int .i64 x.p, .int .i64 x.r, .int .i64 x.h, .int .i64 x.b, .int .i64 x.l, .int .i64 x.s, .int .i64 x.f] 25)) := (Below.refl _ w1).alloc (Nat.le_refl _) _
  have hbn : (w1.alloc (.cells #[.int .i64 x.g, .int .i64 x.p, .int .i64 x.r, .int .i64 x.h, .int .i64 x.b, .int .i64 x.l, .int .i64 x.s, .int .i64 x.f] 25)).heap[w1.heap.size]? = _ := alloc_new _ _ _ rfl
  generalize w1.alloc (.cells #[.int .i64 x.g, .int .i64 x.p, .int .i64 x.r, .int .i64 x.h, .int .i64 x.b, .int .i64 x.l, .int .i64 x.s, .int .i64 x.f] 25) = w2 at *
  refine (HD2.out _ (HR2.out.below (hb.trans (hbp.mono (by omega))))).mono ?_
  rintro e w3 ⟨rfl, hb3⟩
  have hx3 := cell_blk ((hb3.block _ (lt_of_block hbn)).trans hbn)
  have hlt2 : w1.heap.size < w2.heap.size := lt_of_block hbn
  have hB3 := (hb3.block _ (by omega : w.heap.size < w2.heap.size)).trans ((hbp.block _ hlt).trans HB1.out)
  have hlt3 : w1.heap.size < w3.heap.size := by have := hb3.size; omega
  have hlt4 : w.heap.size < w3.heap.size := by omega
  have hb4 := below_then hb hbp hb.size
  have hb5 := below_then hb4 hb3 hb4.size
  have cl := cell_blk hB3
  have fz := free_blk hB3
  have HB3 := Lib.hid hB3
  have hne : w1.heap.size ≠ w.heap.size := by omega
  have hne3 : w3.heap.size ≠ w.heap.size := by omega
  clear hB3 hbn
  go_wp2
  generalize hW2 : World.alloc _ _ = W2
  have hb2 : Below w.heap.size w W2 := by rw [← hW2]; exact set8 hb5 _ _ _ _ _ _ _ _ _ hb5.size
  have cl2 := cell_blk (show W2.heap[w.heap.size]? = _ by rw [← hW2]; exact alloc_old (blk8 HB3.out _ _ _ _ _ _ _ _) _)
  exact bodyPost_ret (v := .tuple #[.agg #[.int .i64 x.g, .int .i64 x.p, .int .i64 x.r, .int .i64 x.h, .int .i64 x.b, .int .i64 x.l, .int .i64 x.s, .int .i64 x.f], .int .i64 0, .int .i64 0]) (by simp [results, Tryz.results28, go_sem, cl2]) rfl ⟨rfl, hb2⟩
set_option maxRecDepth 100000 in
set_option maxHeartbeats 800000 in
theorem rchoose_any3 (a1 : Option Addr) (n1 m1 : Nat) (l : List UInt8) (a2 : Option Addr) (n2 m2 : Nat) (k : List UInt8) (w : World) (hr : Rd w a1 n1 l) (hc : n1 ≤ m1) (hr2 : Rd w a2 n2 k) (hc2 : n2 ≤ m2)
    (ne1 : (P.sErr l == 0) = true) (nn1 : (P.sErr l != 0) = false) (ne2 : (P.sErr k == 0) = false) (nn2 : (P.sErr k != 0) = true) :
    Calls Tryz.prog 28 #[.slice a1 n1 m1, .slice a2 n2 m2] w fun e w' => e = .returned (.tuple #[supV (P.sSup l), .int .i64 0, .int .i64 0]) ∧ Below w.heap.size w w' := by
  have HD1 := Lib.hid (fun w1 (h : Rd w1 a1 n1 l) => rdec_fun a1 n1 m1 l w1 h hc)
  have HD2 := Lib.hid (fun w1 (h : Rd w1 a2 n2 k) => rdec_fun a2 n2 m2 k w1 h hc2)
  have HR1 := Lib.hid hr
  have HR2 := Lib.hid hr2
  generalize P.sErr l = e1 at *
  generalize P.sErr k = e2 at *
  generalize P.sSup l = x at *
  generalize P.sSup k = y at *
  unfold supV at HD1 HD2
  unfold supV
  try simp only
  clear hr hr2
  go_enter Tryz.func28, Tryz.ntmps28
  go_wp2_with fail
  refine (HD1.out _ (HR1.out.below ((Below.refl _ w).alloc (Nat.le_refl _) _))).mono ?_
  rintro e w1 ⟨rfl, hb1⟩
  have hb := below_alloc1 hb1
  have hB1 := made_below hb1
  have hlt : w.heap.size < w1.heap.size := lt_of_block hB1
  have HB1 := Lib.hid hB1
  clear hb1 hB1
  go_wp2_with fail
  have hbp : Below w1.heap.size w1 (w1.alloc (.cells #[.int .i64 x.g, .int .i64 x.p, .int .i64 x.r, .int .i64 x.h, .int .i64 x.b, .int .i64 x.l, .int .i64 x.s, .int .i64 x.f] 25)) := (Below.refl _ w1).alloc (Nat.le_refl _) _
  have hbn : (w1.alloc (.cells #[.int .i64 x.g, .int .i64 x.p, .int .i64 x.r, .int .i64 x.h, .int .i64 x.b, .int .i64 x.l, .int .i64 x.s, .int .i64 x.f] 25)).heap[w1.heap.size]? = _ := alloc_new _ _ _ rfl
  generalize w1.alloc (.cells #[.int .i64 x.g, .int .i64 x.p, .int .i64 x.r, .int .i64 x.h, .int .i64 x.b, .int .i64 x.l, .int .i64 x.s, .int .i64 x.f] 25) = w2 at *
  refine (HD2.out _ (HR2.out.below (hb.trans (hbp.mono (by omega))))).mono ?_
  rintro e w3 ⟨rfl, hb3⟩
  have hx3 := cell_blk ((hb3.block _ (lt_of_block hbn)).trans hbn)
  have hlt2 : w1.heap.size < w2.heap.size := lt_of_block hbn
  have hB3 := (hb3.block _ (by omega : w.heap.size < w2.heap.size)).trans ((hbp.block _ hlt).trans HB1.out)
  have hlt3 : w1.heap.size < w3.heap.size := by have := hb3.size; omega
  have hlt4 : w.heap.size < w3.heap.size := by omega
  have hb4 := below_then hb hbp hb.size
  have hb5 := below_then hb4 hb3 hb4.size
  have cl := cell_blk hB3
  have fz := free_blk hB3
  have HB3 := Lib.hid hB3
  have hne : w1.heap.size ≠ w.heap.size := by omega
  have hne3 : w3.heap.size ≠ w.heap.size := by omega
  clear hB3 hbn
  go_wp2
  generalize hW2 : World.alloc _ _ = W2
  have hb2 : Below w.heap.size w W2 := by rw [← hW2]; exact set8 hb5 _ _ _ _ _ _ _ _ _ hb5.size
  have cl2 := cell_blk (show W2.heap[w.heap.size]? = _ by rw [← hW2]; exact alloc_old (blk8 HB3.out _ _ _ _ _ _ _ _) _)
  exact bodyPost_ret (v := .tuple #[.agg #[.int .i64 x.g, .int .i64 x.p, .int .i64 x.r, .int .i64 x.h, .int .i64 x.b, .int .i64 x.l, .int .i64 x.s, .int .i64 x.f], .int .i64 0, .int .i64 0]) (by simp [results, Tryz.results28, go_sem, cl2]) rfl ⟨rfl, hb2⟩
set_option maxRecDepth 100000 in
set_option maxHeartbeats 800000 in
theorem rchoose_any4 (a1 : Option Addr) (n1 m1 : Nat) (l : List UInt8) (a2 : Option Addr) (n2 m2 : Nat) (k : List UInt8) (w : World) (hr : Rd w a1 n1 l) (hc : n1 ≤ m1) (hr2 : Rd w a2 n2 k) (hc2 : n2 ≤ m2)
    (ne1 : (P.sErr l == 0) = false) (nn1 : (P.sErr l != 0) = true) (ne2 : (P.sErr k == 0) = true) (nn2 : (P.sErr k != 0) = false) :
    Calls Tryz.prog 28 #[.slice a1 n1 m1, .slice a2 n2 m2] w fun e w' => e = .returned (.tuple #[supV (P.sSup k), .int .i64 1, .int .i64 0]) ∧ Below w.heap.size w w' := by
  have HD1 := Lib.hid (fun w1 (h : Rd w1 a1 n1 l) => rdec_fun a1 n1 m1 l w1 h hc)
  have HD2 := Lib.hid (fun w1 (h : Rd w1 a2 n2 k) => rdec_fun a2 n2 m2 k w1 h hc2)
  have HR1 := Lib.hid hr
  have HR2 := Lib.hid hr2
  generalize P.sErr l = e1 at *
  generalize P.sErr k = e2 at *
  generalize P.sSup l = x at *
  generalize P.sSup k = y at *
  unfold supV at HD1 HD2
  unfold supV
  try simp only
  clear hr hr2
  go_enter Tryz.func28, Tryz.ntmps28
  go_wp2_with fail
  refine (HD1.out _ (HR1.out.below ((Below.refl _ w).alloc (Nat.le_refl _) _))).mono ?_
  rintro e w1 ⟨rfl, hb1⟩
  have hb := below_alloc1 hb1
  have hB1 := made_below hb1
  have hlt : w.heap.size < w1.heap.size := lt_of_block hB1
  have HB1 := Lib.hid hB1
  clear hb1 hB1
  go_wp2_with fail
  have hbp : Below w1.heap.size w1 (w1.alloc (.cells #[.int .i64 x.g, .int .i64 x.p, .int .i64 x.r, .int .i64 x.h, .int .i64 x.b, .int .i64 x.l, .int .i64 x.s, .int .i64 x.f] 25)) := (Below.refl _ w1).alloc (Nat.le_refl _) _
  have hbn : (w1.alloc (.cells #[.int .i64 x.g, .int .i64 x.p, .int .i64 x.r, .int .i64 x.h, .int .i64 x.b, .int .i64 x.l, .int .i64 x.s, .int .i64 x.f] 25)).heap[w1.heap.size]? = _ := alloc_new _ _ _ rfl
  generalize w1.alloc (.cells #[.int .i64 x.g, .int .i64 x.p, .int .i64 x.r, .int .i64 x.h, .int .i64 x.b, .int .i64 x.l, .int .i64 x.s, .int .i64 x.f] 25) = w2 at *
  refine (HD2.out _ (HR2.out.below (hb.trans (hbp.mono (by omega))))).mono ?_
  rintro e w3 ⟨rfl, hb3⟩
  have hx3 := cell_blk ((hb3.block _ (lt_of_block hbn)).trans hbn)
  have hlt2 : w1.heap.size < w2.heap.size := lt_of_block hbn
  have hB3 := (hb3.block _ (by omega : w.heap.size < w2.heap.size)).trans ((hbp.block _ hlt).trans HB1.out)
  have hlt3 : w1.heap.size < w3.heap.size := by have := hb3.size; omega
  have hlt4 : w.heap.size < w3.heap.size := by omega
  have hb4 := below_then hb hbp hb.size
  have hb5 := below_then hb4 hb3 hb4.size
  have cl := cell_blk hB3
  have fz := free_blk hB3
  have HB3 := Lib.hid hB3
  have hne : w1.heap.size ≠ w.heap.size := by omega
  have hne3 : w3.heap.size ≠ w.heap.size := by omega
  clear hB3 hbn
  go_wp2
  generalize hW2 : World.alloc _ _ = W2
  have hb2 : Below w.heap.size w W2 := by rw [← hW2]; exact set8 hb5 _ _ _ _ _ _ _ _ _ hb5.size
  have cl2 := cell_blk (show W2.heap[w.heap.size]? = _ by rw [← hW2]; exact alloc_old (blk8 HB3.out _ _ _ _ _ _ _ _) _)
  exact bodyPost_ret (v := .tuple #[.agg #[.int .i64 y.g, .int .i64 y.p, .int .i64 y.r, .int .i64 y.h, .int .i64 y.b, .int .i64 y.l, .int .i64 y.s, .int .i64 y.f], .int .i64 1, .int .i64 0]) (by simp [results, Tryz.results28, go_sem, cl2]) rfl ⟨rfl, hb2⟩
set_option maxRecDepth 100000 in
set_option maxHeartbeats 800000 in
theorem rchoose_any5 (a1 : Option Addr) (n1 m1 : Nat) (l : List UInt8) (a2 : Option Addr) (n2 m2 : Nat) (k : List UInt8) (w : World) (hr : Rd w a1 n1 l) (hc : n1 ≤ m1) (hr2 : Rd w a2 n2 k) (hc2 : n2 ≤ m2)
    (ne1 : (P.sErr l == 0) = false) (nn1 : (P.sErr l != 0) = true) (ne2 : (P.sErr k == 0) = false) (nn2 : (P.sErr k != 0) = true) :
    Calls Tryz.prog 28 #[.slice a1 n1 m1, .slice a2 n2 m2] w fun e w' => e = .returned (.tuple #[supV P.Sup.zero, .int .i64 (-1), .int .i64 8]) ∧ Below w.heap.size w w' := by
  have HD1 := Lib.hid (fun w1 (h : Rd w1 a1 n1 l) => rdec_fun a1 n1 m1 l w1 h hc)
  have HD2 := Lib.hid (fun w1 (h : Rd w1 a2 n2 k) => rdec_fun a2 n2 m2 k w1 h hc2)
  have HR1 := Lib.hid hr
  have HR2 := Lib.hid hr2
  generalize P.sErr l = e1 at *
  generalize P.sErr k = e2 at *
  generalize P.sSup l = x at *
  generalize P.sSup k = y at *
  unfold supV at HD1 HD2
  unfold supV P.Sup.zero
  try simp only
  clear hr hr2
  go_enter Tryz.func28, Tryz.ntmps28
  go_wp2_with fail
  refine (HD1.out _ (HR1.out.below ((Below.refl _ w).alloc (Nat.le_refl _) _))).mono ?_
  rintro e w1 ⟨rfl, hb1⟩
  have hb := below_alloc1 hb1
  have hB1 := made_below hb1
  have hlt : w.heap.size < w1.heap.size := lt_of_block hB1
  have HB1 := Lib.hid hB1
  clear hb1 hB1
  go_wp2_with fail
  have hbp : Below w1.heap.size w1 (w1.alloc (.cells #[.int .i64 x.g, .int .i64 x.p, .int .i64 x.r, .int .i64 x.h, .int .i64 x.b, .int .i64 x.l, .int .i64 x.s, .int .i64 x.f] 25)) := (Below.refl _ w1).alloc (Nat.le_refl _) _
  have hbn : (w1.alloc (.cells #[.int .i64 x.g, .int .i64 x.p, .int .i64 x.r, .int .i64 x.h, .int .i64 x.b, .int .i64 x.l, .int .i64 x.s, .int .i64 x.f] 25)).heap[w1.heap.size]? = _ := alloc_new _ _ _ rfl
  generalize w1.alloc (.cells #[.int .i64 x.g, .int .i64 x.p, .int .i64 x.r, .int .i64 x.h, .int .i64 x.b, .int .i64 x.l, .int .i64 x.s, .int .i64 x.f] 25) = w2 at *
  refine (HD2.out _ (HR2.out.below (hb.trans (hbp.mono (by omega))))).mono ?_
  rintro e w3 ⟨rfl, hb3⟩
  have hx3 := cell_blk ((hb3.block _ (lt_of_block hbn)).trans hbn)
  have hlt2 : w1.heap.size < w2.heap.size := lt_of_block hbn
  have hB3 := (hb3.block _ (by omega : w.heap.size < w2.heap.size)).trans ((hbp.block _ hlt).trans HB1.out)
  have hlt3 : w1.heap.size < w3.heap.size := by have := hb3.size; omega
  have hlt4 : w.heap.size < w3.heap.size := by omega
  have hb4 := below_then hb hbp hb.size
  have hb5 := below_then hb4 hb3 hb4.size
  have cl := cell_blk hB3
  have fz := free_blk hB3
  have HB3 := Lib.hid hB3
  have hne : w1.heap.size ≠ w.heap.size := by omega
  have hne3 : w3.heap.size ≠ w.heap.size := by omega
  clear hB3 hbn
  go_wp2
  generalize hW2 : World.alloc _ _ = W2
  have hb2 : Below w.heap.size w W2 := by rw [← hW2]; exact set8 hb5 _ _ _ _ _ _ _ _ _ hb5.size
  have cl2 := cell_blk (show W2.heap[w.heap.size]? = _ by rw [← hW2]; exact alloc_old (blk8 HB3.out _ _ _ _ _ _ _ _) _)
  exact bodyPost_ret (v := .tuple #[.agg #[.int .i64 0, .int .i64 0, .int .i64 0, .int .i64 0, .int .i64 0, .int .i64 0, .int .i64 0, .int .i64 0], .int .i64 (-1), .int .i64 8]) (by simp [results, Tryz.results28, go_sem, cl2]) rfl ⟨rfl, hb2⟩
theorem rchoose_any (a1 : Option Addr) (n1 m1 : Nat) (l : List UInt8) (a2 : Option Addr) (n2 m2 : Nat) (k : List UInt8) (w : World) (hr : Rd w a1 n1 l) (hc : n1 ≤ m1) (hr2 : Rd w a2 n2 k) (hc2 : n2 ≤ m2) :
    Calls Tryz.prog 28 #[.slice a1 n1 m1, .slice a2 n2 m2] w fun e w' => e = .returned (.tuple #[supV (P.cS l k), .int .i64 (P.cI l k), .int .i64 (P.cE l k)]) ∧ Below w.heap.size w w' := by
  by_cases h1 : P.sErr l = 0 <;> by_cases h2 : P.sErr k = 0
  · have b1 : (P.sErr l == 0) = true := by simpa using h1
    have b2 : (P.sErr l != 0) = false := by simpa using h1
    have b3 : (P.sErr k == 0) = true := by simpa using h2
    have b4 : (P.sErr k != 0) = false := by simpa using h2
    rcases h3 : decide ((P.sSup l).g ≥ (P.sSup k).g) with _ | _
    · obtain ⟨e1, e2, e3⟩ := P.pick_b l k (by have := of_decide_eq_false h3; omega) h2
      rw [e1, e2, e3]
      exact rchoose_any1 a1 n1 m1 l a2 n2 m2 k w hr hc hr2 hc2 b1 b2 b3 b4 h3
    · obtain ⟨e1, e2, e3⟩ := P.pick_a l k ⟨h1, .inr (of_decide_eq_true h3)⟩
      rw [e1, e2, e3]
      exact rchoose_any2 a1 n1 m1 l a2 n2 m2 k w hr hc hr2 hc2 b1 b2 b3 b4 h3
  · have b1 : (P.sErr l == 0) = true := by simpa using h1
    have b2 : (P.sErr l != 0) = false := by simpa using h1
    have b3 : (P.sErr k == 0) = false := by simpa using h2
    have b4 : (P.sErr k != 0) = true := by simpa using h2
    obtain ⟨e1, e2, e3⟩ := P.pick_a l k ⟨h1, .inl h2⟩
    rw [e1, e2, e3]
    exact rchoose_any3 a1 n1 m1 l a2 n2 m2 k w hr hc hr2 hc2 b1 b2 b3 b4
  · have b1 : (P.sErr l == 0) = false := by simpa using h1
    have b2 : (P.sErr l != 0) = true := by simpa using h1
    have b3 : (P.sErr k == 0) = true := by simpa using h2
    have b4 : (P.sErr k != 0) = false := by simpa using h2
    obtain ⟨e1, e2, e3⟩ := P.pick_b l k (by omega) h2
    rw [e1, e2, e3]
    exact rchoose_any4 a1 n1 m1 l a2 n2 m2 k w hr hc hr2 hc2 b1 b2 b3 b4
  · have b1 : (P.sErr l == 0) = false := by simpa using h1
    have b2 : (P.sErr l != 0) = true := by simpa using h1
    have b3 : (P.sErr k == 0) = false := by simpa using h2
    have b4 : (P.sErr k != 0) = true := by simpa using h2
    obtain ⟨e1, e2, e3⟩ := P.pick_n l k h1 h2
    rw [e1, e2, e3]
    exact rchoose_any5 a1 n1 m1 l a2 n2 m2 k w hr hc hr2 hc2 b1 b2 b3 b4
end Go.Proofs.YtnjpaanjgbfbaaaGreat
