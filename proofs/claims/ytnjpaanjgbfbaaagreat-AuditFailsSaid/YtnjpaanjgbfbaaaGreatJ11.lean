/- The walk of the reference's Open. -/
import Derived.Test.YtnjpaanjgbfbaaaGreatJ08
namespace Go.Proofs.YtnjpaanjgbfbaaaGreat
set_option linter.unusedVariables false
set_option linter.unusedSimpArgs false
open Go.RowKit

theorem get_two (l : List UInt8) (h : l.length = 256) : P.get l 6 2 = (((P.openCount l : Nat) : Int), true) := by
  have hb : P.lies l.length 6 2 = true := by unfold P.lies; apply decide_eq_true; omega
  have e : P.slice l (6 : Int).toNat (2 : Int).toNat = [l.getD 6 0, l.getD 7 0] := by
    show (l.drop 6).take 2 = _
    rw [List.drop_eq_getElem_cons (show 6 < l.length by omega), List.drop_eq_getElem_cons (show 6 + 1 < l.length by omega)]
    simp only [List.getD_eq_getElem?_getD, List.getElem?_eq_getElem (show 6 < l.length by omega), List.getElem?_eq_getElem (show 7 < l.length by omega), Option.getD_some]
    rfl
  have h6 := (l.getD 6 0).toNat_lt
  have h7 := (l.getD 7 0).toNat_lt
  unfold P.get
  rw [if_pos hb, e]
  simp only [P.num, List.foldl_cons, List.foldl_nil, Nat.zero_mul, Nat.zero_add]
  rw [if_neg (by omega)]
  rfl

theorem quietS {P : Program} {f : FuncId} {args : Array Value} {w : World} {n : Nat} {v : Value}
    (h : Calls P f args (w.drewN n) fun e w' => e = .returned v ∧ w.drewN n = w') : Calls P f args (w.drewN n) fun e w'' => e = .returned v ∧ ∃ m, w'' = w.drewN m :=
  h.mono fun _ _ ⟨he, hm⟩ => ⟨he, n, hm.symm⟩

set_option maxRecDepth 100000 in
set_option maxHeartbeats 800000 in
theorem ropen_any (a : Option Addr) (len cap : Nat) (l : List UInt8) (w : World) (hr : Rd w a len l) (hc : len ≤ cap) :
    Calls Tryz.prog 64 #[.slice a len cap] w fun e w' => Below w.heap.size w w' ∧
      ((P.openErr l ≠ 0 ∧ e = .returned (.tuple #[zpage, .int .i64 (P.openErr l)])) ∨
       (P.openErr l = 0 ∧ ∃ v, e = .returned (.tuple #[.agg #[.int .i64 (P.openKind l : Nat), .int .i64 (P.openLevel l : Nat), .int .i64 (P.openCount l : Nat), v], .int .i64 0]) ∧ OB w' w.heap.size v (P.openBody l))) := by
  obtain rfl := hr.1
  by_cases h1 : l.length = 256
  case neg =>
    have h2 : P.openErr l = 1 := by rcases openErr_cases l with ⟨_, h⟩ | ⟨h, _⟩ | ⟨h, _⟩ <;> first | exact h | exact absurd h h1
    have c1 : ((l.length : Int) != 256) = true := by rw [bne_iff_ne]; omega
    have HE := Lib.hid h2
    clear h1 h2
    go_enter Tryz.func64, Tryz.ntmps64
    go_wp2
    exact bodyPost_ret (v := .tuple #[zpage, .int .i64 1]) (by simp [results, Tryz.results64, zpage, go_sem]) rfl ⟨(Below.refl _ w).alloc (Nat.le_refl _) _, .inl ⟨by rw [HE.out]; omega, by rw [HE.out]⟩⟩
  case pos =>
    have c1 : ((l.length : Int) != 256) = false := by rw [bne_eq_false_iff_eq]; omega
    have hg := get_sum l h1
    have hcl := P.crc_lt (l.drop 4)
    obtain ⟨p, rfl, hcells⟩ := hr.ptr (by omega)
    have hrd := hr.drop 4
    rw [add_lit p 4 (by omega)] at hrd
    have hre := hr.drop 8
    rw [add_lit p 8 (by omega)] at hre
    have hplt := hr.lt (by omega) p rfl
    obtain ⟨S, hS⟩ : ∃ S, S = P.num (l.take 4) := ⟨_, rfl⟩
    obtain ⟨C, hC⟩ : ∃ C, C = P.crc (l.drop 4) := ⟨_, rfl⟩
    rw [← hS] at hg
    rw [← hC] at hcl
    have HC := Lib.hid hC
    have HW := Lib.hid (IntWalk.i64_in (C : Int) (by omega))
    have hcap : ¬ cap = 4 := by omega
    have hcap8 : ¬ cap = 8 := by omega
    have hl1 : (8 : Int) ≤ (l.length : Int) := by omega
    have hl1' : (4 : Int) ≤ (l.length : Int) := by omega
    have hl2 : (l.length : Int) ≤ (cap : Int) := by omega
    have HCL : ∀ i, 0 < i → (hi : i < 256) → w.cell? ⟨p.block, p.off + i, none⟩ = some (.int .u8 ((l.getD i 0).toNat : Int)) := by
      intro i h0 hi
      have := hcells i (by omega)
      rw [add_lit p i h0] at this
      rw [this]
      unfold bv
      rw [List.getD_eq_getElem?_getD, List.getElem?_eq_getElem (by omega)]
      rfl
    have hg2 := get_two l h1
    have HS := Lib.hid hS
    have HCH := Lib.hid HCL
    have HG := Lib.hid hg
    have HG2 := Lib.hid hg2
    have HR := Lib.hid hr
    have HD := Lib.hid hrd
    have HB8 := Lib.hid hre
    have HL := Lib.hid h1
    have hl256 : 255 < (l.length : Int) := by omega
    have hl9 : l.length ≤ 256 := by omega
    clear hg hr hrd hre hC hcells HCL hS hg2 h1
    go_enter Tryz.func64, Tryz.ntmps64
    go_wp2
    have hbA : Below w.heap.size w (w.alloc (.cells #[.int .i64 0, .int .i64 0, .int .i64 0, .slice none 0 0] 89)) := (Below.refl _ w).alloc (Nat.le_refl _) _
    have hB0 : (w.alloc (.cells #[.int .i64 0, .int .i64 0, .int .i64 0, .slice none 0 0] 89)).heap[w.heap.size]? = _ := alloc_new _ _ _ rfl
    generalize w.alloc (.cells #[.int .i64 0, .int .i64 0, .int .i64 0, .slice none 0 0] 89) = w0 at *
    have HK := Lib.hid hB0
    clear hB0
    go_quiet ((first
      | (go_at_call 65; refine quietS (refget_any _ _ _ l _ _ _ ?_ ?_); exact (HR.out.below hbA).drewN _; omega)
      | (go_at_call 33; refine quietS (rcrc_any _ _ _ (l.drop 4) _ ?_); exact (HD.out.below hbA).drewN _)))
    rw [HG.out, ← HC.out, IntWalk.wrap64_in (C : Int) (by omega)]
    have gx : ∀ i, w0.cell? ⟨w.heap.size, i, none⟩ = _ := cell_blk HK.out
    have fx : ∀ i, w0.frozen? ⟨w.heap.size, i, none⟩ = false := free_blk HK.out
    have hbq : Below w.heap.size w (w0.drewN nq) := below_drewN hbA nq
    have hwlt : w.heap.size < w0.heap.size := lt_of_block HK.out
    have HKq : (w0.drewN nq).heap[w.heap.size]? = _ := HK.out
    generalize w0.drewN nq = w1 at *
    have gx : ∀ i, w1.cell? ⟨w.heap.size, i, none⟩ = _ := cell_blk HKq
    have fx : ∀ i, w1.frozen? ⟨w.heap.size, i, none⟩ = false := free_blk HKq
    have HK1 := Lib.hid HKq
    have hwlt1 : w.heap.size < w1.heap.size := lt_of_block HKq
    clear HKq
    by_cases hSC : S = C
    case neg =>
      have c2 : ((S : Int) != (C : Int)) = true := by rw [bne_iff_ne]; omega
      have hE : P.openErr l = 5 := by
        rcases openErr_cases l with ⟨h, _⟩ | ⟨_, _, h⟩ | ⟨_, h, _⟩
        · exact absurd HL.out h
        · exact h
        · exfalso; exact hSC (by rw [HS.out, HC.out]; exact h)
      have HE := Lib.hid hE
      clear hE hSC
      go_wp2
      exact bodyPost_ret (v := .tuple #[zpage, .int .i64 5]) (by simp [results, Tryz.results64, zpage, go_sem, gx]) rfl ⟨((((hbq.setCell (Nat.le_refl _) _).setCell (Nat.le_refl _) _).setCell (Nat.le_refl _) _).setCell (Nat.le_refl _) _), .inl ⟨by rw [HE.out]; omega, by rw [HE.out]⟩⟩
    case pos =>
      have c2 : ((S : Int) != (C : Int)) = false := by rw [hSC]; simp
      have h3 : (l.getD 4 0 < 1 ∨ 5 < l.getD 4 0) ∧ P.openErr l = 4 ∨ (¬ (l.getD 4 0 < 1 ∨ 5 < l.getD 4 0) ∧ P.openErr l = 0) := by
        rcases openErr_cases l with ⟨h, _⟩ | ⟨_, h, _⟩ | ⟨_, _, h⟩
        · exact absurd HL.out h
        · exfalso; exact h (by rw [← HS.out, ← HC.out]; exact hSC)
        · exact h
      obtain ⟨b4, hb4⟩ : ∃ b, b = l.getD 4 0 := ⟨_, rfl⟩
      obtain ⟨b5, hb5⟩ : ∃ b, b = l.getD 5 0 := ⟨_, rfl⟩
      have HB4 := Lib.hid hb4
      have HB5 := Lib.hid hb5
      have hb4lt := b4.toNat_lt
      have hb5lt := b5.toNat_lt
      have k4 : w1.cell? ⟨p.block, p.off + 4, none⟩ = some (.int .u8 (b4.toNat : Int)) := by rw [hbq.cell (by exact hplt), HCH.out 4 (by omega) (by omega), HB4.out]
      have k5 : w1.cell? ⟨p.block, p.off + 5, none⟩ = some (.int .u8 (b5.toNat : Int)) := by rw [hbq.cell (by exact hplt), HCH.out 5 (by omega) (by omega), HB5.out]
      have i4 : (4 : Int) < (l.length : Int) := by omega
      have i5 : (5 : Int) < (l.length : Int) := by omega
      rcases h3 with ⟨h3, h4⟩ | ⟨h3, h4⟩
      · have HE := Lib.hid h4
        have hq : (b4.toNat : Int) < 1 ∨ 5 < (b4.toNat : Int) := by
          rw [← hb4, UInt8.lt_iff_toNat_lt, UInt8.lt_iff_toNat_lt] at h3
          have e1 : (1 : UInt8).toNat = 1 := rfl
          have e2 : (5 : UInt8).toNat = 5 := rfl
          omega
        clear h3 h4 hb4 hb5 hSC
        go_wp2
        all_goals
          exact bodyPost_ret (v := .tuple #[zpage, .int .i64 4]) (by simp [results, Tryz.results64, zpage, go_sem, gx]) rfl ⟨((((hbq.setCell (Nat.le_refl _) _).setCell (Nat.le_refl _) _).setCell (Nat.le_refl _) _).setCell (Nat.le_refl _) _), .inl ⟨by rw [HE.out]; omega, by rw [HE.out]⟩⟩
      · have HE := Lib.hid h4
        have hq1 : ¬ (b4.toNat : Int) < 1 := by
          rw [← hb4, UInt8.lt_iff_toNat_lt, UInt8.lt_iff_toNat_lt] at h3
          have e1 : (1 : UInt8).toNat = 1 := rfl
          omega
        have hq2 : ¬ 5 < (b4.toNat : Int) := by
          rw [← hb4, UInt8.lt_iff_toNat_lt, UInt8.lt_iff_toNat_lt] at h3
          have e2 : (5 : UInt8).toNat = 5 := rfl
          omega
        have c3 : decide ((b4.toNat : Int) < 1) = false := decide_eq_false hq1
        have c4 : decide (5 < (b4.toNat : Int)) = false := decide_eq_false hq2
        have hpne : ¬ p.block = w.heap.size := by omega
        have hpne' : ¬ w.heap.size = p.block := by omega
        have hp1 : p.block < w1.heap.size := by omega
        clear h3 h4 hb4 hb5 hSC
        go_wp2
        go_region_held3 (fun w' => w'.cell? ⟨p.block, p.off + 4, none⟩ = some (.int .u8 (b4.toNat : Int)) ∧ w'.cell? ⟨p.block, p.off + 5, none⟩ = some (.int .u8 (b5.toNat : Int)))
          (first
            | go_keep
            | exact ⟨(hb3.cell (p := ⟨p.block, p.off + 4, none⟩) hp1).trans k4, (hb3.cell (p := ⟨p.block, p.off + 5, none⟩) hp1).trans k5⟩)
          (first
            | (go_at_call 65; refine (refget_any _ _ _ l _ _ _ (Rd.drew (HR.out.below hbq)) (by omega)).mono ?_; rintro e w' ⟨rfl, rfl⟩)
            | (go_at_call 31; refine (copy_any _ _ _ (l.drop 8) _ (Rd.drew (HB8.out.below hbq)) (by omega)).mono ?_; rintro e w3 ⟨v3, rfl, hown3, hb3⟩; obtain ⟨a3, cp3, hv3, -, -, -, -⟩ := hown3.form; subst hv3; have hB3 := (hb3.block w.heap.size hwlt1).trans HK1.out; have gx3 := cell_blk hB3; have fx3 := free_blk hB3; have HB3 := Lib.hid hB3; clear hB3))
        rw [HG2.out, wrap_u8_i64 b4, wrap_u8_i64 b5]
        go_wp2
        have hbel : Below w.heap.size w w3 := below_then hbq (below_of_drew hb3) hbq.size
        refine bodyPost_ret (v := .tuple #[.agg #[.int .i64 (b4.toNat : Int), .int .i64 (b5.toNat : Int), .int .i64 (P.openCount l : Nat), .slice a3 (l.length - 8) cp3], .int .i64 0])
          (by simp [results, Tryz.results64, go_sem, gx3]) rfl ⟨((((hbel.setCell (Nat.le_refl _) _).setCell (Nat.le_refl _) _).setCell (Nat.le_refl _) _).setCell (Nat.le_refl _) _), .inr ⟨HE.out, .slice a3 (l.length - 8) cp3, ?_, ?_⟩⟩
        · unfold P.openKind P.openLevel
          rw [← HB4.out, ← HB5.out]
        · have hown4 : OB w3 w.heap.size (.slice a3 (l.length - 8) cp3) (P.openBody l) := by
            have h := hown3.mono (B' := w.heap.size) (by exact hbq.size)
            simpa [P.openBody] using h
          refine OB.chg (S := fun i => i = w.heap.size) hown4 (((((Chg.refl (fun i => i = w.heap.size) w3).setCell _ _ (.inr rfl)).setCell _ _ (.inr rfl)).setCell _ _ (.inr rfl)).setCell _ _ (.inr rfl)) ?_
          intro i hi
          have := (World.ownsRow.lt hown3 i (by simpa [Value.ownBlock] using hi)).1
          simp at this
          omega
end Go.Proofs.YtnjpaanjgbfbaaaGreat
/- Seal and Open, program and reference, each by one contract. -/
namespace Go.Proofs.YtnjpaanjgbfbaaaGreat
set_option linter.unusedVariables false
set_option linter.unusedSimpArgs false
open Go.RowKit

theorem rseal_fun (k l c : Int) (a : Option Addr) (n m : Nat) (b : List UInt8) (w : World) (hr : Rd w a n b) :
    Calls Tryz.prog 35 #[.agg #[.int .i64 k, .int .i64 l, .int .i64 c, .slice a n m]] w fun e w' =>
      ∃ v, e = .returned (.tuple #[v, .int .i64 (P.sealErr k l c b.length)]) ∧ OB w' w.heap.size v (P.sealB k l c b) ∧ Below w.heap.size w w' := by
  obtain rfl := hr.1
  have hm := hr.2.1
  unfold maxLen at hm
  unfold P.sealB
  by_cases h : P.sealErr k l c b.length = 0
  · rw [if_pos h, h]
    exact rseal_ok k l c a _ m b w hr h
  · rw [if_neg h]
    exact (rseal_bad k l c a _ m w (by omega) h).mono fun e w' ⟨he, hb⟩ => ⟨_, he, OB.nil _ _, hb⟩
theorem open_post (l : List UInt8) (w w' : World) (e : Ending) (h : Below w.heap.size w w' ∧
      ((P.openErr l ≠ 0 ∧ e = .returned (.tuple #[zpage, .int .i64 (P.openErr l)])) ∨
       (P.openErr l = 0 ∧ ∃ v, e = .returned (.tuple #[.agg #[.int .i64 (P.openKind l : Nat), .int .i64 (P.openLevel l : Nat), .int .i64 (P.openCount l : Nat), v], .int .i64 0]) ∧ OB w' w.heap.size v (P.openBody l)))) :
    ∃ v, e = .returned (.tuple #[.agg #[.int .i64 (P.oK l), .int .i64 (P.oL l), .int .i64 (P.oC l), v], .int .i64 (P.openErr l)]) ∧ OB w' w.heap.size v (P.oB l) ∧ Below w.heap.size w w' := by
  obtain ⟨hb, ⟨h0, he⟩ | ⟨h0, v, he, ho⟩⟩ := h
  · refine ⟨_, ?_, OB.nil _ _ |> fun h => by rw [show P.oB l = [] by simp [P.oB, h0]]; exact h, hb⟩
    rw [he]
    simp [P.oK, P.oL, P.oC, h0, zpage]
  · refine ⟨v, ?_, by rw [show P.oB l = P.openBody l by simp [P.oB, h0]]; exact ho, hb⟩
    rw [he]
    simp [P.oK, P.oL, P.oC, h0]
theorem open_fun (a : Option Addr) (len cap : Nat) (l : List UInt8) (w : World) (hr : Rd w a len l) (hc : len ≤ cap) :
    Calls Tryz.prog 72 #[.slice a len cap] w fun e w' =>
      ∃ v, e = .returned (.tuple #[.agg #[.int .i64 (P.oK l), .int .i64 (P.oL l), .int .i64 (P.oC l), v], .int .i64 (P.openErr l)]) ∧ OB w' w.heap.size v (P.oB l) ∧ Below w.heap.size w w' :=
  (open_any a len cap l w hr hc).mono fun e w' h => open_post l w w' e h
theorem ropen_fun (a : Option Addr) (len cap : Nat) (l : List UInt8) (w : World) (hr : Rd w a len l) (hc : len ≤ cap) :
    Calls Tryz.prog 64 #[.slice a len cap] w fun e w' =>
      ∃ v, e = .returned (.tuple #[.agg #[.int .i64 (P.oK l), .int .i64 (P.oL l), .int .i64 (P.oC l), v], .int .i64 (P.openErr l)]) ∧ OB w' w.heap.size v (P.oB l) ∧ Below w.heap.size w w' :=
  (ropen_any a len cap l w hr hc).mono fun e w' h => open_post l w w' e h
end Go.Proofs.YtnjpaanjgbfbaaaGreat
