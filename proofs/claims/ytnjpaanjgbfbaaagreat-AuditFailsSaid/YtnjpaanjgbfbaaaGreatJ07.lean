/- The walk of page.Open. -/
import Derived.Test.YtnjpaanjgbfbaaaGreatJ06
import Derived.Deep.RegionLaw
namespace Go.Proofs.YtnjpaanjgbfbaaaGreat
set_option linter.unusedVariables false
set_option linter.unusedSimpArgs false
open Go.RowKit

theorem add_add (p : Addr) (i j : Nat) : (p.add i).add j = p.add (i + j) := by
  unfold Addr.add
  by_cases hi : i = 0 <;> by_cases hj : j = 0 <;> simp [hi, hj, Nat.add_assoc]
theorem Rd.drop {w : World} {p : Addr} {len : Nat} {l : List UInt8} (h : Rd w (some p) len l) (k : Nat) : Rd w (some (p.add k)) (len - k) (l.drop k) :=
  ⟨by have := h.1; simp; omega, by have := h.2.1; omega, fun i hi => by
    simp at hi
    obtain ⟨q, e, hq⟩ := h.2.2 (k + i) (by omega)
    cases e
    exact ⟨_, rfl, by rw [add_add]; simpa using hq⟩⟩
theorem add_lit (p : Addr) (k : Nat) (h : 0 < k) : p.add k = ⟨p.block, p.off + k, none⟩ := by unfold Addr.add; rw [if_neg (by omega)]

theorem get_sum (l : List UInt8) (h : l.length = 256) : P.get l 0 4 = (((P.num (l.take 4) : Nat) : Int), true) := by
  have hb : P.lies l.length 0 4 = true := by unfold P.lies; apply decide_eq_true; omega
  have hlt := P.num_lt (l.take 4)
  have hl4 : (l.take 4).length = 4 := by simp; omega
  rw [hl4] at hlt
  unfold P.get
  rw [if_pos hb]
  have e : P.slice l (0 : Int).toNat (4 : Int).toNat = l.take 4 := by simp [P.slice]
  rw [e]
  simp only
  rw [if_neg (by omega)]

theorem wraps_i64 (n : Int) (h₀ : 0 ≤ n) (h₁ : n < 2 ^ 62) : IntKind.i64.wrap n = n := IntWalk.i64_in n (by omega)
theorem wrap_u8_i64 (b : UInt8) : IntKind.i64.wrap (b.toNat : Int) = (b.toNat : Int) := by
  have := b.toNat_lt
  exact IntWalk.i64_in _ (by omega)
theorem or_count (b c : UInt8) : bits .or .i64 (IntKind.i64.wrap ((b.toNat : Int) * 256)) (c.toNat : Int) = ((b.toNat * 256 + c.toNat : Nat) : Int) := by
  have hb := b.toNat_lt
  have hc := c.toNat_lt
  rw [IntWalk.i64_in _ (by omega)]
  have e : ((b.toNat : Int) * 256) = ((b.toNat * 256 : Nat) : Int) := by omega
  rw [e, (bits_nat .i64 62 (by decide) wraps_i64 _ _ (by omega) (by omega)).2]
  congr 1
  have : (2 ^ 8 * b.toNat + c.toNat) = 2 ^ 8 * b.toNat ||| c.toNat := Nat.two_pow_add_eq_or_of_lt (by omega) _
  rw [Nat.mul_comm b.toNat 256]
  exact this.symm

/-- The zero page. -/
def zpage : Value := .agg #[.int .i64 0, .int .i64 0, .int .i64 0, .slice none 0 0]

theorem openErr_cases (l : List UInt8) : (l.length ≠ 256 ∧ P.openErr l = 1) ∨ (l.length = 256 ∧ P.num (l.take 4) ≠ P.crc (l.drop 4) ∧ P.openErr l = 5) ∨
    (l.length = 256 ∧ P.num (l.take 4) = P.crc (l.drop 4) ∧ ((l.getD 4 0 < 1 ∨ 5 < l.getD 4 0) ∧ P.openErr l = 4 ∨ (¬ (l.getD 4 0 < 1 ∨ 5 < l.getD 4 0) ∧ P.openErr l = 0))) := by
  unfold P.openErr
  by_cases h1 : l.length = 256
  · by_cases h2 : P.num (l.take 4) = P.crc (l.drop 4)
    · by_cases h3 : l.getD 4 0 < 1 ∨ 5 < l.getD 4 0
      · exact .inr (.inr ⟨h1, h2, .inl ⟨h3, by rw [if_neg (by simpa using h1), if_neg (by simpa using h2), if_pos h3]⟩⟩)
      · exact .inr (.inr ⟨h1, h2, .inr ⟨h3, by rw [if_neg (by simpa using h1), if_neg (by simpa using h2), if_neg h3]⟩⟩)
    · exact .inr (.inl ⟨h1, h2, by rw [if_neg (by simpa using h1), if_pos h2]⟩)
  · exact .inl ⟨h1, by rw [if_pos h1]⟩

set_option maxRecDepth 100000 in
set_option maxHeartbeats 1600000 in
theorem open_any (a : Option Addr) (len cap : Nat) (l : List UInt8) (w : World) (hr : Rd w a len l) (hc : len ≤ cap) :
    Calls Tryz.prog 72 #[.slice a len cap] w fun e w' => Below w.heap.size w w' ∧
      ((P.openErr l ≠ 0 ∧ e = .returned (.tuple #[zpage, .int .i64 (P.openErr l)])) ∨
       (P.openErr l = 0 ∧ ∃ v, e = .returned (.tuple #[.agg #[.int .i64 (P.openKind l : Nat), .int .i64 (P.openLevel l : Nat), .int .i64 (P.openCount l : Nat), v], .int .i64 0]) ∧ OB w' w.heap.size v (P.openBody l))) := by
  obtain rfl := hr.1
  rcases openErr_cases l with ⟨h1, h2⟩ | ⟨h1, h2, h3⟩ | ⟨h1, h2, h3⟩
  · have c1 : ((l.length : Int) != 256) = true := by rw [bne_iff_ne]; omega
    have HE := Lib.hid h2
    clear h1 h2
    go_enter Tryz.func72, Tryz.ntmps72
    go_wp2
    exact bodyPost_ret (v := .tuple #[zpage, .int .i64 1]) (by simp [results, Tryz.results72, zpage, go_sem]) rfl ⟨(Below.refl _ w).alloc (Nat.le_refl _) _, .inl ⟨by rw [HE.out]; omega, by rw [HE.out]⟩⟩
  · have c1 : ((l.length : Int) != 256) = false := by rw [bne_eq_false_iff_eq]; omega
    have hg := get_sum l h1
    have hcl := P.crc_lt (l.drop 4)
    obtain ⟨p, rfl, -⟩ := hr.ptr (by omega)
    have hrd := hr.drop 4
    rw [add_lit p 4 (by omega)] at hrd
    obtain ⟨S, hS⟩ : ∃ S, S = P.num (l.take 4) := ⟨_, rfl⟩
    obtain ⟨C, hC⟩ : ∃ C, C = P.crc (l.drop 4) := ⟨_, rfl⟩
    rw [← hS] at hg h2
    rw [← hC] at h2 hcl
    have HC := Lib.hid hC
    have c2 : ((S : Int) != (C : Int)) = true := by rw [bne_iff_ne]; omega
    have hcap : ¬ cap = 4 := by omega
    have hl1 : (4 : Int) ≤ (l.length : Int) := by omega
    have hl2 : (l.length : Int) ≤ (cap : Int) := by omega
    have hl3 : l.length = 256 := h1
    have HE := Lib.hid h3
    have HG := Lib.hid hg
    have HR := Lib.hid hr
    have HD := Lib.hid hrd
    have HL := Lib.hid hl3
    clear h1 h2 h3 hg hr hrd hS hC hl3
    go_enter Tryz.func72, Tryz.ntmps72
    go_wp2_with fail
    refine (get_any _ _ _ l _ _ _ (HR.out.below ((Below.refl _ w).alloc (Nat.le_refl _) _)) (by omega)).mono ?_
    rintro e w1 ⟨rfl, hb1⟩
    rw [HG.out]
    have hb2 := below_alloc1 hb1
    have hk := made_below hb1
    go_wp2_with fail
    refine (crc_any _ _ _ (l.drop 4) _ (HD.out.below hb2)).mono ?_
    rintro e w2 ⟨rfl, rfl⟩
    rw [← HC.out]
    have g0 := cell_blk hk
    have fz := free_blk hk
    clear hk
    go_wp2
    exact bodyPost_ret (v := .tuple #[zpage, .int .i64 5]) (by simp [results, Tryz.results72, zpage, go_sem, g0]) rfl ⟨((((hb2.setCell (Nat.le_refl _) _).setCell (Nat.le_refl _) _).setCell (Nat.le_refl _) _).setCell (Nat.le_refl _) _), .inl ⟨by rw [HE.out]; omega, by rw [HE.out]⟩⟩
  · have c1 : ((l.length : Int) != 256) = false := by rw [bne_eq_false_iff_eq]; omega
    have hg := get_sum l h1
    have hcl := P.crc_lt (l.drop 4)
    obtain ⟨p, rfl, hcells⟩ := hr.ptr (by omega)
    have hrd := hr.drop 4
    rw [add_lit p 4 (by omega)] at hrd
    have hre := hr.drop 8
    rw [add_lit p 8 (by omega)] at hre
    have hplt := hr.lt (by omega) p rfl
    obtain ⟨C, hC⟩ : ∃ C, C = P.crc (l.drop 4) := ⟨_, rfl⟩
    rw [h2, ← hC] at hg
    rw [← hC] at hcl
    have HC := Lib.hid hC
    have c2 : ((C : Int) != (C : Int)) = false := by simp
    have hcap : ¬ cap = 4 := by omega
    have hcap8 : ¬ cap = 8 := by omega
    have hl1 : (8 : Int) ≤ (l.length : Int) := by omega
    have hl2 : (l.length : Int) ≤ (cap : Int) := by omega
    have HCL : ∀ i, 0 < i → (hi : i < 256) → w.cell? ⟨p.block, p.off + i, none⟩ = some (.int .u8 ((l.getD i 0).toNat : Int)) := by
      intro i h0 hi
      have := hcells i (by omega)
      rw [add_lit p i h0] at this
      rw [this]
      unfold bv
      rw [List.getD_eq_getElem?_getD, List.getElem?_eq_getElem (by omega)]
      rfl
    have HCH := Lib.hid HCL
    have HG := Lib.hid hg
    have HR := Lib.hid hr
    have HD := Lib.hid hrd
    have HB8 := Lib.hid hre
    have HL := Lib.hid h1
    have hl256 : 255 < (l.length : Int) := by omega
    clear hg hr hrd hre hC h1 h2 hcells HCL
    obtain ⟨b4, hb4⟩ : ∃ b, b = l.getD 4 0 := ⟨_, rfl⟩
    have hb4lt := b4.toNat_lt
    rcases h3 with ⟨h3, h4⟩ | ⟨h3, h4⟩
    · have HE := Lib.hid h4
      have hq : (b4.toNat : Int) < 1 ∨ 5 < (b4.toNat : Int) := by
        rw [← hb4, UInt8.lt_iff_toNat_lt, UInt8.lt_iff_toNat_lt] at h3
        have e1 : (1 : UInt8).toNat = 1 := rfl
        have e2 : (5 : UInt8).toNat = 5 := rfl
        omega
      have HB4 := Lib.hid hb4
      clear h3 h4 hb4
      go_enter Tryz.func72, Tryz.ntmps72
      go_wp2_with fail
      refine (get_any _ _ _ l _ _ _ (HR.out.below ((Below.refl _ w).alloc (Nat.le_refl _) _)) (by omega)).mono ?_
      rintro e w1 ⟨rfl, hb1⟩
      rw [HG.out]
      have hb2 := below_alloc1 hb1
      have hk := made_below hb1
      go_wp2_with fail
      refine (crc_any _ _ _ (l.drop 4) _ (HD.out.below hb2)).mono ?_
      rintro e w2 ⟨rfl, rfl⟩
      rw [← HC.out]
      have g0 := cell_blk hk
      have fz := free_blk hk
      have k4 : w1.cell? ⟨p.block, p.off + 4, none⟩ = some (.int .u8 (b4.toNat : Int)) := by rw [hb2.cell (by exact hplt), HCH.out 4 (by omega) (by omega), HB4.out]
      clear hk
      go_wp2
      all_goals
        exact bodyPost_ret (v := .tuple #[zpage, .int .i64 4]) (by simp [results, Tryz.results72, zpage, go_sem, g0]) rfl ⟨((((hb2.setCell (Nat.le_refl _) _).setCell (Nat.le_refl _) _).setCell (Nat.le_refl _) _).setCell (Nat.le_refl _) _), .inl ⟨by rw [HE.out]; omega, by rw [HE.out]⟩⟩
    · have HE := Lib.hid h4
      have hq1 : ¬ (b4.toNat : Int) < 1 := by
        rw [← hb4, UInt8.lt_iff_toNat_lt, UInt8.lt_iff_toNat_lt] at h3
        have e1 : (1 : UInt8).toNat = 1 := rfl
        omega
      have hq2 : ¬ 5 < (b4.toNat : Int) := by
        rw [← hb4, UInt8.lt_iff_toNat_lt, UInt8.lt_iff_toNat_lt] at h3
        have e2 : (5 : UInt8).toNat = 5 := rfl
        omega
      have HB4 := Lib.hid hb4
      obtain ⟨b5, hb5⟩ : ∃ b, b = l.getD 5 0 := ⟨_, rfl⟩
      obtain ⟨b6, hb6⟩ : ∃ b, b = l.getD 6 0 := ⟨_, rfl⟩
      obtain ⟨b7, hb7⟩ : ∃ b, b = l.getD 7 0 := ⟨_, rfl⟩
      have HB5 := Lib.hid hb5
      have HB6 := Lib.hid hb6
      have HB7 := Lib.hid hb7
      have hb5lt := b5.toNat_lt
      have hb6lt := b6.toNat_lt
      have hb7lt := b7.toNat_lt
      have c3 : decide ((b4.toNat : Int) < 1) = false := decide_eq_false hq1
      have c4 : decide (5 < (b4.toNat : Int)) = false := decide_eq_false hq2
      clear h3 h4 hb4 hb5 hb6 hb7
      go_enter Tryz.func72, Tryz.ntmps72
      go_wp2_with fail
      refine (get_any _ _ _ l _ _ _ (HR.out.below ((Below.refl _ w).alloc (Nat.le_refl _) _)) (by omega)).mono ?_
      rintro e w1 ⟨rfl, hb1⟩
      rw [HG.out]
      have hb2 := below_alloc1 hb1
      have hk := made_below hb1
      have HK := Lib.hid hk
      go_wp2_with fail
      refine (crc_any _ _ _ (l.drop 4) _ (HD.out.below hb2)).mono ?_
      rintro e w2 ⟨rfl, rfl⟩
      rw [← HC.out]
      have k4 : w1.cell? ⟨p.block, p.off + 4, none⟩ = some (.int .u8 (b4.toNat : Int)) := by rw [hb2.cell (by exact hplt), HCH.out 4 (by omega) (by omega), HB4.out]
      have k5 : w1.cell? ⟨p.block, p.off + 5, none⟩ = some (.int .u8 (b5.toNat : Int)) := by rw [hb2.cell (by exact hplt), HCH.out 5 (by omega) (by omega), HB5.out]
      have k6 : w1.cell? ⟨p.block, p.off + 6, none⟩ = some (.int .u8 (b6.toNat : Int)) := by rw [hb2.cell (by exact hplt), HCH.out 6 (by omega) (by omega), HB6.out]
      have k7 : w1.cell? ⟨p.block, p.off + 7, none⟩ = some (.int .u8 (b7.toNat : Int)) := by rw [hb2.cell (by exact hplt), HCH.out 7 (by omega) (by omega), HB7.out]
      clear hk
      go_wp2
      have i4 : (4 : Int) < (l.length : Int) := by omega
      have i5 : (5 : Int) < (l.length : Int) := by omega
      have i6 : (6 : Int) < (l.length : Int) := by omega
      have i7 : (7 : Int) < (l.length : Int) := by omega
      have i8 : (8 : Int) ≤ (l.length : Int) := by omega
      have hl9 : l.length ≤ 256 := by have := HL.out; omega
      have gx : ∀ i, w1.cell? ⟨w.heap.size, i, none⟩ = _ := cell_blk HK.out
      have fx : ∀ i, w1.frozen? ⟨w.heap.size, i, none⟩ = false := free_blk HK.out
      have hwlt : w.heap.size < w1.heap.size := lt_of_block HK.out
      have hpne : ¬ p.block = w.heap.size := by omega
      have hpne' : ¬ w.heap.size = p.block := by omega
      go_region_held3 (fun w' => w'.cell? ⟨p.block, p.off + 4, none⟩ = some (.int .u8 (b4.toNat : Int)) ∧ w'.cell? ⟨p.block, p.off + 5, none⟩ = some (.int .u8 (b5.toNat : Int)) ∧
          w'.cell? ⟨p.block, p.off + 6, none⟩ = some (.int .u8 (b6.toNat : Int)) ∧ w'.cell? ⟨p.block, p.off + 7, none⟩ = some (.int .u8 (b7.toNat : Int)))
        (first
          | go_keep
          | exact ⟨hg3.cell (a := ⟨p.block, p.off + 4, none⟩) k4 (by simp [Value.ownBlock]), hg3.cell (a := ⟨p.block, p.off + 5, none⟩) k5 (by simp [Value.ownBlock]), hg3.cell (a := ⟨p.block, p.off + 6, none⟩) k6 (by simp [Value.ownBlock]), hg3.cell (a := ⟨p.block, p.off + 7, none⟩) k7 (by simp [Value.ownBlock])⟩)
        ((refine step_app _ rfl _ _ rfl w1.heap.size (.slice none 0 0) [] rfl (OB.nil _ _) _ _ _ (l.drop 8) rfl (by exact (HB8.out.below hb2).drew) (by simp; omega) (Nat.le_refl _) ?_; intro v3 w3 hown3 hg3 hat3; obtain ⟨a3, cp3, hv3, -, -, -, -⟩ := hown3.form; subst hv3; have hB3 := (hg3.block w.heap.size hwlt (by simp [Value.ownBlock])).trans HK.out; have gx3 := cell_blk hB3; have fx3 := free_blk hB3; have HB3 := Lib.hid hB3; clear hB3))
      rw [wrap_u8_i64 b4, wrap_u8_i64 b5, wrap_u8_i64 b6, wrap_u8_i64 b7, or_count b6 b7]
      go_wp2
      have hbel : Below w.heap.size w w3 := hb2.trans ((show Below w1.heap.size w1 w3 from below_of_drew ((Below.refl _ w1.drew).grown hg3 (Nat.le_refl _) (by simp [Value.ownBlock]))).mono hb2.size)
      refine bodyPost_ret (v := .tuple #[.agg #[.int .i64 (b4.toNat : Int), .int .i64 (b5.toNat : Int), .int .i64 ((b6.toNat * 256 + b7.toNat : Nat) : Int), .slice a3 (l.length - 8) cp3], .int .i64 0])
        (by simp [results, Tryz.results72, go_sem, gx3]) rfl ⟨((((hbel.setCell (Nat.le_refl _) _).setCell (Nat.le_refl _) _).setCell (Nat.le_refl _) _).setCell (Nat.le_refl _) _), .inr ⟨HE.out, .slice a3 (l.length - 8) cp3, ?_, ?_⟩⟩
      · unfold P.openKind P.openLevel P.openCount
        rw [← HB4.out, ← HB5.out, ← HB6.out, ← HB7.out]
      · have hown4 : OB w3 w.heap.size (.slice a3 (l.length - 8) cp3) (P.openBody l) := by
          have h := hown3.mono hb2.size
          simpa [P.openBody] using h
        refine OB.chg (S := fun i => i = w.heap.size) hown4 (((((Chg.refl (fun i => i = w.heap.size) w3).setCell _ _ (.inr rfl)).setCell _ _ (.inr rfl)).setCell _ _ (.inr rfl)).setCell _ _ (.inr rfl)) ?_
        intro i hi
        have := (World.ownsRow.lt hown3 i (by simpa [Value.ownBlock] using hi)).1
        omega
end Go.Proofs.YtnjpaanjgbfbaaaGreat
