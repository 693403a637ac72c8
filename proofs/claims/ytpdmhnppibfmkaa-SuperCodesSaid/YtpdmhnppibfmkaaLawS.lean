/- The walk of the law SuperCodes. -/
import Derived.Test.YtpdmhnppibfmkaaLawS0
namespace Go.Proofs.Ytpdmhnppibfmkaa
set_option linter.unusedVariables false
set_option linter.unusedSimpArgs false
open Go.RowKit

set_option maxRecDepth 100000 in
set_option maxHeartbeats 1600000 in
theorem superCodes_walk (x : P.Sup) (a2 : Option Addr) (n2 m2 : Nat) (b2 : List UInt8) (w : World) (hr2 : Rd w a2 n2 b2) (hm2 : n2 ≤ m2) :
    Calls Try.prog 3 #[supV x, .slice a2 n2 m2] w fun e w' => e = .returned (.bool true) ∧ Below w.heap.size w w' := by
  have HR2 := Lib.hid hr2
  have HE := Lib.hid (fun w => enc_fun x w)
  have HRE := Lib.hid (fun w => renc_fun x w)
  have HC := Lib.hid (fun w => chk_any x w)
  have HRC := Lib.hid (fun w => rchk_any x w)
  have HD := Lib.hid (fun w (h : Rd w a2 n2 b2) => dec_fun a2 n2 m2 b2 w h hm2)
  have HRD := Lib.hid (fun w (h : Rd w a2 n2 b2) => rdec_fun a2 n2 m2 b2 w h hm2)
  have hback : x.chk = 0 → ∀ a len cap w, Rd w a len x.page → len ≤ cap → Calls Try.prog 20 #[.slice a len cap] w fun e w' => e = .returned (.tuple #[supV x, .int .i64 0]) ∧ Below w.heap.size w w' := by
    intro h a len cap w hr hm
    have hh := dec_fun a len cap x.page w hr hm
    rw [(P.sErr_page h).1, (P.sErr_page h).2] at hh
    exact hh
  have HBK := Lib.hid hback
  obtain ⟨y, hy⟩ : ∃ y, y = P.sSup b2 := ⟨_, rfl⟩
  obtain ⟨E, hE⟩ : ∃ E, E = P.sErr b2 := ⟨_, rfl⟩
  obtain ⟨K, hK⟩ : ∃ K, K = x.page := ⟨_, rfl⟩
  obtain ⟨X, hX⟩ : ∃ X, X = x.chk := ⟨_, rfl⟩
  rw [← hy, ← hE] at HD HRD
  rw [← hK, ← hX] at HE HRE
  rw [← hX] at HC HRC
  rw [← hK, ← hX] at HBK
  unfold supV at HE HRE HC HRC HD HRD HBK ⊢
  clear hr2 hback hy hE hK hX
  by_cases hg : n2 ≤ 2000
  case neg =>
    have hq : 2000 < (n2 : Int) := by omega
    clear hg
    go_enter Try.func3, Try.ntmps3
    go_wp2_with fail
    refine (awake7_any _).mono ?_
    rintro e w1 ⟨rfl, hb1⟩
    have hb := below_alloc1 hb1
    go_wp2
    go_ret
    exact ⟨rfl, hb⟩
  case pos =>
    have c2 : decide (2000 < (n2 : Int)) = false := decide_eq_false (by omega)
    go_enter Try.func3, Try.ntmps3
    go_wp2_with fail
    refine (awake7_any _).mono ?_
    rintro e w1 ⟨rfl, hb1⟩
    have hb := below_alloc1 hb1
    have hk := made_below hb1
    have HK := Lib.hid hk
    have hlt := lt_of_block hk
    have g := cell_blk hk
    clear hk hb1
    go_wp2_with fail
    refine (HE.out _).mono ?_
    rintro e w2 ⟨v2, rfl, ho2, hb2⟩
    obtain ⟨a3, p3, hv2, hr3, hm3, -, -⟩ := ho2.form
    subst hv2
    have HR3 := Lib.hid hr3
    have hk2 := (hb2.block _ hlt).trans HK.out
    have HK2 := Lib.hid hk2
    have hlt2 := lt_of_block hk2
    have g2 := cell_blk hk2
    have hbb2 := below_then hb hb2 hb.size
    clear ho2 hr3 g hk2
    go_wp2_with fail
    refine (HRE.out _).mono ?_
    rintro e w3 ⟨v3, rfl, ho3, hb3⟩
    obtain ⟨a4, p4, hv3, hr4, -, -, -⟩ := ho3.form
    subst hv3
    have HR4 := Lib.hid hr4
    have hk3 := (hb3.block _ hlt2).trans HK2.out
    have HK3 := Lib.hid hk3
    have hlt3 := lt_of_block hk3
    have hbb3 := below_then hbb2 hb3 hbb2.size
    clear ho3 hr4 g2 hk3
    go_wp2_with fail
    refine (HD.out _ (HR2.out.below hbb3)).mono ?_
    rintro e w4 ⟨rfl, hb4⟩
    have hbb4 := below_then hbb3 hb4 hbb3.size
    go_wp2_with fail
    have hb5 : Below w4.heap.size w4 (w4.alloc (.cells #[.int .i64 y.g, .int .i64 y.p, .int .i64 y.r, .int .i64 y.h, .int .i64 y.b, .int .i64 y.l, .int .i64 y.s, .int .i64 y.f] 23)) := (Below.refl _ w4).alloc (Nat.le_refl _) _
    have hk5 : (w4.alloc (.cells #[.int .i64 y.g, .int .i64 y.p, .int .i64 y.r, .int .i64 y.h, .int .i64 y.b, .int .i64 y.l, .int .i64 y.s, .int .i64 y.f] 23)).heap[w4.heap.size]? = _ := alloc_new _ _ _ rfl
    generalize w4.alloc (.cells #[.int .i64 y.g, .int .i64 y.p, .int .i64 y.r, .int .i64 y.h, .int .i64 y.b, .int .i64 y.l, .int .i64 y.s, .int .i64 y.f] 23) = w5 at *
    have hbb5 := below_then hbb4 hb5 hbb4.size
    have hlt5 := lt_of_block hk5
    have HK5 := Lib.hid hk5
    clear hk5
    refine (HRD.out _ (HR2.out.below hbb5)).mono ?_
    rintro e w6 ⟨rfl, hb6⟩
    have hbb6 := below_then hbb5 hb6 hbb5.size
    have hbt6 := hb4.trans ((hb5.trans (hb6.mono hb5.size)).mono hb4.size)
    have HR36 := Lib.hid ((HR3.out.below hb3).below hbt6)
    have HR46 := Lib.hid (HR4.out.below hbt6)
    have HK6 := Lib.hid ((hb6.block _ hlt5).trans HK5.out)
    have HKX := Lib.hid ((hbt6.block _ hlt3).trans HK3.out)
    have lta : w.heap.size < w6.heap.size := by have := hbt6.size; omega
    have ltb : w4.heap.size < w6.heap.size := by have := hb6.size; omega
    have hX0 : (X != X) = false := by simp
    have hE0 : (E != E) = false := by simp
    rcases h0 : (X == 0) with _ | _
    case' true =>
      have hz : X = 0 := by simpa using h0
      have HB0 := Lib.hid (HBK.out hz)
    all_goals
      go_wp2
      have hb7 : Below w6.heap.size w6 (w6.alloc (.cells #[.int .i64 y.g, .int .i64 y.p, .int .i64 y.r, .int .i64 y.h, .int .i64 y.b, .int .i64 y.l, .int .i64 y.s, .int .i64 y.f] 23)) := (Below.refl _ w6).alloc (Nat.le_refl _) _
      have hk7 : (w6.alloc (.cells #[.int .i64 y.g, .int .i64 y.p, .int .i64 y.r, .int .i64 y.h, .int .i64 y.b, .int .i64 y.l, .int .i64 y.s, .int .i64 y.f] 23)).heap[w6.heap.size]? = _ := alloc_new _ _ _ rfl
      generalize w6.alloc (.cells #[.int .i64 y.g, .int .i64 y.p, .int .i64 y.r, .int .i64 y.h, .int .i64 y.b, .int .i64 y.l, .int .i64 y.s, .int .i64 y.f] 23) = w7 at *
      have kx := (hb7.block _ lta).trans HKX.out
      have ky := (hb7.block _ ltb).trans HK6.out
      have l7 := lt_of_block hk7
      have lta7 := lt_of_block kx
      have ltb7 := lt_of_block ky
      have hbb7 := below_then hbb6 hb7 hbb6.size
      have kp : ∀ w', Below w7.heap.size w7 w' → (∀ i, w'.cell? ⟨w.heap.size, i, none⟩ = (#[.int .i64 x.g, .int .i64 x.p, .int .i64 x.r, .int .i64 x.h, .int .i64 x.b, .int .i64 x.l, .int .i64 x.s, .int .i64 x.f] : Array Value)[i]?) ∧ (∀ i, w'.cell? ⟨w4.heap.size, i, none⟩ = (#[.int .i64 y.g, .int .i64 y.p, .int .i64 y.r, .int .i64 y.h, .int .i64 y.b, .int .i64 y.l, .int .i64 y.s, .int .i64 y.f] : Array Value)[i]?) ∧ (∀ i, w'.cell? ⟨w6.heap.size, i, none⟩ = (#[.int .i64 y.g, .int .i64 y.p, .int .i64 y.r, .int .i64 y.h, .int .i64 y.b, .int .i64 y.l, .int .i64 y.s, .int .i64 y.f] : Array Value)[i]?) :=
        fun w' h => ⟨cell_blk ((h.block _ lta7).trans kx), cell_blk ((h.block _ ltb7).trans ky), cell_blk ((h.block _ l7).trans hk7)⟩
      have KP := Lib.hid kp
      have HR37 := Lib.hid (HR36.out.below hb7)
      have HR47 := Lib.hid (HR46.out.below hb7)
      have hB : Below w7.heap.size w7 w7.drew := ⟨rfl, rfl, rfl, Nat.le_refl _, fun _ _ => rfl⟩
      clear kp kx ky hk7
      go_region_held3 (fun w' => (∀ i, w'.cell? ⟨w.heap.size, i, none⟩ = (#[.int .i64 x.g, .int .i64 x.p, .int .i64 x.r, .int .i64 x.h, .int .i64 x.b, .int .i64 x.l, .int .i64 x.s, .int .i64 x.f] : Array Value)[i]?) ∧ (∀ i, w'.cell? ⟨w4.heap.size, i, none⟩ = (#[.int .i64 y.g, .int .i64 y.p, .int .i64 y.r, .int .i64 y.h, .int .i64 y.b, .int .i64 y.l, .int .i64 y.s, .int .i64 y.f] : Array Value)[i]?) ∧ (∀ i, w'.cell? ⟨w6.heap.size, i, none⟩ = (#[.int .i64 y.g, .int .i64 y.p, .int .i64 y.r, .int .i64 y.h, .int .i64 y.b, .int .i64 y.l, .int .i64 y.s, .int .i64 y.f] : Array Value)[i]?))
        (first
          | exact KP.out _ hB)
        (first
          | (go_at_call 22; refine (same_refl _ _ _ _ _ K _ (HR37.out.below hB) (HR47.out.below hB)).mono ?_; rintro e ws ⟨rfl, hbs⟩; have hB := below_then hB hbs hB.size)
          | (go_at_call 23; refine (HC.out _).mono ?_; rintro e wc ⟨rfl, hbc⟩; have hB := below_then hB hbc hB.size)
          | (go_at_call 24; refine (HRC.out _).mono ?_; rintro e wd ⟨rfl, hbd⟩; have hB := below_then hB hbd hB.size))
      have hbb8 := below_then hbb7 hB hbb7.size
    · have gx := KP.out _ hB
      have HGX := Lib.hid gx.1
      have lt8 : w.heap.size < wd.heap.size := by have := hB.size; omega
      clear gx
      go_wp2_with fail
      refine (HB0.out _ _ _ _ (HR37.out.below hB) hm3).mono ?_
      rintro e w9 ⟨rfl, hb9⟩
      have g9 : ∀ i, w9.cell? ⟨w.heap.size, i, none⟩ = (#[.int .i64 x.g, .int .i64 x.p, .int .i64 x.r, .int .i64 x.h, .int .i64 x.b, .int .i64 x.l, .int .i64 x.s, .int .i64 x.f] : Array Value)[i]? := fun i => (hb9.cell (p := ⟨w.heap.size, i, none⟩) lt8).trans (HGX.out i)
      have lt9 : w.heap.size < w9.heap.size := by have := hb9.size; omega
      have hbb9 := below_then hbb8 hb9 hbb8.size
      go_wp2
      go_ret
      exact ⟨by first | rfl | (simp; done), hbb9.alloc hbb9.size _⟩
    · go_wp2
      go_ret
      exact ⟨rfl, hbb8⟩
end Go.Proofs.Ytpdmhnppibfmkaa
