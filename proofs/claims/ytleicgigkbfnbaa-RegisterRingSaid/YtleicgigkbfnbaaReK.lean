/- The walk of the law RegisterKnown. -/
import Derived.Test.YtleicgigkbfnbaaReH
namespace Go.Proofs.Ytleicgigkbfnbaa
set_option linter.unusedVariables false
set_option linter.unusedSimpArgs false
open Go.RowKit

def rk0 : RM := fun _ => none
def rk1 : RM := setM rk0 48 false [120]
def rk2 : RM := upd (shift rk1 49) 49 (some (true, [108, 10]))
def rk3 : RM := setM rk2 97 false [112]
def rk4 : RM := setM rk3 65 true [113, 10]
theorem rk_y : setM rk0 (yk 0) false [120] = rk1 := rfl
theorem rk_z : upd (shift rk1 49) 49 (some (true, [108, 10])) = rk2 := rfl
theorem rk_n : (if setOk (yk 0) = true then sm (yk 0) else 48) = 48 := rfl
theorem rk_k : setOk (yk 0) = true := rfl
theorem rk_s1 : setOk 97 = true := rfl
theorem rk_s2 : setM rk2 97 false [112] = rk3 := rfl
theorem rk_s3 : setOk 65 = true := rfl
theorem rk_s4 : setM rk3 65 true [113, 10] = rk4 := rfl
theorem rk_s5 : setOk 34 = false := rfl
theorem rk_a : rk2 (gk 49 34) = some (true, [108, 10]) := rfl
theorem rk_b : rk2 (gk 49 48) = some (false, [120]) := rfl
theorem rk_o : (rk3 (sm 65)).getD (false, []) = (false, [112]) := rfl
theorem rk_c : rk4 (gk 49 97) = some (true, [112, 10, 113, 10]) := rfl
theorem rk_d : rk4 (gk 49 63) = none := rfl
theorem chg_blk {w w' : World} {p b i : Nat} {o : Obj} (hc : Chg (fun j => j = p ∨ j = b) w w') (h : w.heap[i]? = some o) (hp : i ≠ p) (hb : i ≠ b) : w'.heap[i]? = some o :=
  (hc.block i (lt_of_block h) (by intro e; rcases e with e | e; exact hp e; exact hb e)).trans h
theorem chg_OB {w w' : World} {p b B : Nat} {v : Value} {l : List UInt8} (hc : Chg (fun j => j = p ∨ j = b) w w') (h : OB w B v l) (hp : p < B) (hb : b < B) : OB w' B v l :=
  OB.chg (S := fun j => j = p ∨ j = b) h hc (fun k hk e => by have h2 := (World.ownsRow.lt h k hk).1; rcases e with e | e <;> omega)
set_option maxRecDepth 100000 in
set_option maxHeartbeats 800000 in
theorem registerKnown_walk (w : World) : Calls Try.prog 3 #[] w fun e w' => e = .returned (.bool true) ∧ Below w.heap.size w w' := by
  have hcvt := fun (w : World) (C : Array Value) (n c : Nat) => Lib.run_convert_bytes_const (P := Try.prog) w 26 5 C n c Try.underlying26 Try.underlying5
  go_enter Try.func3, Try.ntmps3
  go_wp2_with fail
  refine (awake21_any _).mono ?_
  rintro e w1 ⟨rfl, hb1⟩
  go_wp2_with fail
  refine (new_any _).mono ?_
  rintro e w2 ⟨rfl, hr2, hb2⟩
  obtain ⟨b, hbe⟩ : ∃ b, b = w1.heap.size := ⟨_, rfl⟩
  rw [← hbe] at hr2 hb2 ⊢
  have hB : w.heap.size ≤ b := by rw [hbe]; exact hb1.size
  have hbb2 : Below w.heap.size w w2 := hb1.trans (hb2.mono hB)
  have hl2 := hr2.lt
  clear hbe hb1 hb2
  -- Yank
  have hba : Below w2.heap.size w2 (w2.alloc (.cells #[.int .u8 120] 5 (1, 2))) := (Below.refl _ w2).alloc (Nat.le_refl _) _
  have hy := yank_any _ _ _ _ 0 false (some ⟨w2.heap.size, 0, none⟩) 1 1 [120] rk0 _ (hr2.below hba) (by omega) (by omega) (Rd_lit w2 5 [120] (fr := (1, 2)) (by simp [maxLen])) (Nat.le_refl _) (by omega) (fun h => by omega)
  rw [rk_n, rk_k, rk_y] at hy
  have HY := Lib.hid hy
  have hbba := below_then hbb2 hba hbb2.size
  clear hr2 hba hy
  go_wp2_with fail
  refine HY.out.mono ?_
  rintro e w3 ⟨rfl, hr3, hc3⟩
  have hbb3 := below_chg2 hbba hc3 (by omega) (by omega) (Nat.le_refl _)
  have hs3 : b + 1 < w3.heap.size := hr3.lt.1
  clear hc3 hbba
  -- Delete
  have hba : Below w3.heap.size w3 (w3.alloc (.cells #[.int .u8 108, .int .u8 10] 5 (2, 3))) := (Below.refl _ w3).alloc (Nat.le_refl _) _
  have hy := delete_plain _ _ _ _ 0 true (some ⟨w3.heap.size, 0, none⟩) 2 2 [108, 10] rk1 _ (hr3.below hba) (by omega) (Rd_lit w3 5 [108, 10] (fr := (2, 3)) (by simp [maxLen])) (Nat.le_refl _) (by omega) (fun q hq => by cases hq; exact ⟨by simp; omega, by simp; omega⟩) (.inl rfl)
  rw [rk_z] at hy
  have HD := Lib.hid hy
  have hbba := below_then hbb3 hba hbb3.size
  clear hr3 hba hy
  go_wp2_with fail
  refine HD.out.mono ?_
  rintro e w4 ⟨rfl, hr4, hc4⟩
  have hbb4 := below_chg2 hbba hc4 (by omega) (by omega) (Nat.le_refl _)
  have hs4 : b + 1 < w4.heap.size := hr4.lt.1
  have HR4 := Lib.hid hr4
  clear hc4 hbba hr4
  -- Get '"'
  have HG := Lib.hid (get_some _ _ _ _ 34 _ w4 HR4.out (by omega) true [108, 10] rk_a)
  go_wp2_with fail
  refine HG.out.mono ?_
  rintro e w5 ⟨v5, rfl, ho5, hb5⟩
  obtain ⟨g5, c5, rfl, -, -, -, -⟩ := ho5.pos (by simp)
  rw [show gk 49 34 = 49 from rfl]
  have hbc : Below w5.heap.size w5 (w5.alloc (.cells #[.int .u8 49, .bool true, .slice (some ⟨g5, 0, none⟩) 2 c5] 28)) := (Below.refl _ w5).alloc (Nat.le_refl _) _
  have hA : (w5.alloc (.cells #[.int .u8 49, .bool true, .slice (some ⟨g5, 0, none⟩) 2 c5] 28)).heap[w5.heap.size]? = _ := alloc_new _ _ _ rfl
  have hb45 := hb5.trans (hbc.mono hb5.size)
  have hbb5 := below_then hbb4 hb45 hbb4.size
  have hs5 := hb5.size
  have HR5 := Lib.hid (HR4.out.below hb45)
  have HG2 := Lib.hid (get_some _ _ _ _ 48 _ _ HR5.out (by omega) false [120] rk_b)
  clear ho5 hb5 hbc hb45
  go_wp2_with fail
  generalize (w5.alloc (.cells #[.int .u8 49, .bool true, .slice (some ⟨g5, 0, none⟩) 2 c5] 28)) = x5 at *
  have ls5 := lt_of_block hA
  refine HG2.out.mono ?_
  rintro e w6 ⟨v6, rfl, ho6, hb6⟩
  obtain ⟨g6, c6, rfl, -, -, -, -⟩ := ho6.pos (by simp)
  rw [show gk 49 48 = 48 from rfl]
  have hbd : Below w6.heap.size w6 (w6.alloc (.cells #[.int .u8 48, .bool false, .slice (some ⟨g6, 0, none⟩) 1 c6] 28)) := (Below.refl _ w6).alloc (Nat.le_refl _) _
  have hC : (w6.alloc (.cells #[.int .u8 48, .bool false, .slice (some ⟨g6, 0, none⟩) 1 c6] 28)).heap[w6.heap.size]? = _ := alloc_new _ _ _ rfl
  have hb56 := hb6.trans (hbd.mono hb6.size)
  have hA6 := (hb56.block _ ls5).trans hA
  have ho6' : OB (w6.alloc (.cells #[.int .u8 48, .bool false, .slice (some ⟨g6, 0, none⟩) 1 c6] 28)) x5.heap.size (.slice (some ⟨g6, 0, none⟩) 1 c6) [120] := ho6.alloc _
  have HR6 := Lib.hid (HR5.out.below hb56)
  have hbb6 := below_then hbb5 hb56 hbb5.size
  have hs6 := hb6.size
  have hbe : Below (w6.alloc (.cells #[.int .u8 48, .bool false, .slice (some ⟨g6, 0, none⟩) 1 c6] 28)).heap.size (w6.alloc (.cells #[.int .u8 48, .bool false, .slice (some ⟨g6, 0, none⟩) 1 c6] 28)) ((w6.alloc (.cells #[.int .u8 48, .bool false, .slice (some ⟨g6, 0, none⟩) 1 c6] 28)).alloc (.cells #[.int .u8 112] 5 (1, 2))) := (Below.refl _ _).alloc (Nat.le_refl _) _
  have hsz6 : (w6.alloc (.cells #[.int .u8 48, .bool false, .slice (some ⟨g6, 0, none⟩) 1 c6] 28)).heap.size = w6.heap.size + 1 := by simp
  have hrd := Rd_lit (w6.alloc (.cells #[.int .u8 48, .bool false, .slice (some ⟨g6, 0, none⟩) 1 c6] 28)) 5 [112] (fr := (1, 2)) (by simp [maxLen])
  rw [hsz6] at hrd
  have hcvt2 := hcvt (w6.alloc (.cells #[.int .u8 48, .bool false, .slice (some ⟨g6, 0, none⟩) 1 c6] 28)) #[.int .u8 112] 1 1
  rw [hsz6] at hcvt2
  have hset := set_any _ _ _ _ 97 false (some ⟨w6.heap.size + 1, 0, none⟩) 1 1 [112] rk2 _ (HR6.out.below hbe) (by omega) (by omega) hrd (Nat.le_refl _) (by omega) (fun h => by omega)
  rw [rk_s1, rk_s2] at hset
  have HS := Lib.hid hset
  have hbbe := below_then hbb6 hbe hbb6.size
  have hA6 := (hbe.block _ (lt_of_block hA6)).trans hA6
  have hC6 := (hbe.block _ (lt_of_block hC)).trans hC
  have ho6'' := ho6'.below hbe
  have HA6 := Lib.hid hA6
  have HC6 := Lib.hid hC6
  have HO6 := Lib.hid ho6''
  clear ho6 hb6 hbd hb56 ho6' ho6'' hbe hset hrd hsz6 hA6 hC6 hA hC
  go_wp2_with fail
  generalize ((w6.alloc (.cells #[.int .u8 48, .bool false, .slice (some ⟨g6, 0, none⟩) 1 c6] 28)).alloc (.cells #[.int .u8 112] 5 (1, 2))) = x6 at *
  refine HS.out.mono ?_
  rintro e w7 ⟨rfl, hr7, hc7⟩
  have hbb7 := below_chg2 hbbe hc7 (by omega) (by omega) (Nat.le_refl _)
  have hA7 := chg_blk hc7 HA6.out (by omega) (by omega)
  have hC7 := chg_blk hc7 HC6.out (by omega) (by omega)
  have ho7 := chg_OB hc7 HO6.out (by omega) (by omega)
  have hs7 : b + 1 < w7.heap.size := hr7.lt.1
  -- Set 'A'
  have hba : Below w7.heap.size w7 (w7.alloc (.cells #[.int .u8 113, .int .u8 10] 5 (2, 3))) := (Below.refl _ w7).alloc (Nat.le_refl _) _
  have hset := set_any _ _ _ _ 65 true (some ⟨w7.heap.size, 0, none⟩) 2 2 [113, 10] rk3 _ (hr7.below hba) (by omega) (by omega) (Rd_lit w7 5 [113, 10] (fr := (2, 3)) (by simp [maxLen])) (Nat.le_refl _) (by omega) (fun h => by rw [rk_o]; simp)
  rw [rk_s3, rk_s4] at hset
  have HS2 := Lib.hid hset
  have hbba := below_then hbb7 hba hbb7.size
  have HA7 := Lib.hid ((hba.block _ (lt_of_block hA7)).trans hA7)
  have HC7 := Lib.hid ((hba.block _ (lt_of_block hC7)).trans hC7)
  have HO7 := Lib.hid (ho7.below hba)
  clear hr7 hc7 hset hba hA7 hC7 ho7 hbbe
  go_wp2_with fail
  generalize (w7.alloc (.cells #[.int .u8 113, .int .u8 10] 5 (2, 3))) = x7 at *
  refine HS2.out.mono ?_
  rintro e w8 ⟨rfl, hr8, hc8⟩
  have hbb8 := below_chg2 hbba hc8 (by omega) (by omega) (Nat.le_refl _)
  have HA8 := Lib.hid (chg_blk hc8 HA7.out (by omega) (by omega))
  have HC8 := Lib.hid (chg_blk hc8 HC7.out (by omega) (by omega))
  have HO8 := Lib.hid (chg_OB hc8 HO7.out (by omega) (by omega))
  have HR8 := Lib.hid hr8
  have hs8 : b + 1 < w8.heap.size := hr8.lt.1
  have HG3 := Lib.hid (get_some _ _ _ _ 97 _ w8 HR8.out (by omega) true [112, 10, 113, 10] rk_c)
  clear hr8 hc8 hbba
  go_wp2_with fail
  refine HG3.out.mono ?_
  rintro e w9 ⟨v9, rfl, ho9, hb9⟩
  obtain ⟨g9, c9, rfl, -, -, -, -⟩ := ho9.pos (by simp)
  rw [show gk 49 97 = 97 from rfl]
  have hbd : Below w9.heap.size w9 (w9.alloc (.cells #[.int .u8 97, .bool true, .slice (some ⟨g9, 0, none⟩) 4 c9] 28)) := (Below.refl _ w9).alloc (Nat.le_refl _) _
  have hD : (w9.alloc (.cells #[.int .u8 97, .bool true, .slice (some ⟨g9, 0, none⟩) 4 c9] 28)).heap[w9.heap.size]? = _ := alloc_new _ _ _ rfl
  have hb89 := hb9.trans (hbd.mono hb9.size)
  have HA9 := Lib.hid ((hb89.block _ (lt_of_block HA8.out)).trans HA8.out)
  have HC9 := Lib.hid ((hb89.block _ (lt_of_block HC8.out)).trans HC8.out)
  have HO9 := Lib.hid (HO8.out.below hb89)
  have hp9 : OB (w9.alloc (.cells #[.int .u8 97, .bool true, .slice (some ⟨g9, 0, none⟩) 4 c9] 28)) w8.heap.size (.slice (some ⟨g9, 0, none⟩) 4 c9) [112, 10, 113, 10] := ho9.alloc _
  have HP9 := Lib.hid hp9
  have HR9 := Lib.hid (HR8.out.below hb89)
  have HD9 := Lib.hid hD
  have hbb9 := below_then hbb8 hb89 hbb8.size
  have HG4 := Lib.hid (get_none _ _ _ _ 63 _ _ HR9.out (by omega) rk_d)
  clear ho9 hb9 hbd hb89 hp9 hD
  go_wp2_with fail
  generalize (w9.alloc (.cells #[.int .u8 97, .bool true, .slice (some ⟨g9, 0, none⟩) 4 c9] 28)) = x9 at *
  refine HG4.out.mono ?_
  rintro e wa ⟨rfl, hba⟩
  have hbd : Below wa.heap.size wa (wa.alloc (.cells #[.int .u8 0, .bool false, .slice none 0 0] 28)) := (Below.refl _ wa).alloc (Nat.le_refl _) _
  have hbx := hba.trans (hbd.mono hba.size)
  have hbbx := below_then hbb9 hbx hbb9.size
  have gA := cell_blk ((hbx.block _ (lt_of_block HA9.out)).trans HA9.out)
  have gC := cell_blk ((hbx.block _ (lt_of_block HC9.out)).trans HC9.out)
  have gD := cell_blk ((hbx.block _ (lt_of_block HD9.out)).trans HD9.out)
  have hcv1 : (convert 26 9 (.slice (some ⟨g6, 0, none⟩) 1 c6)).run Try.prog (wa.alloc (.cells #[.int .u8 0, .bool false, .slice none 0 0] 28)) = .ok (.string ⟨#[120]⟩) (wa.alloc (.cells #[.int .u8 0, .bool false, .slice none 0 0] 28)) := (HO9.out.below hba).conv _
  have hcv2 : (convert 26 9 (.slice (some ⟨g9, 0, none⟩) 4 c9)).run Try.prog (wa.alloc (.cells #[.int .u8 0, .bool false, .slice none 0 0] 28)) = .ok (.string ⟨#[112, 10, 113, 10]⟩) (wa.alloc (.cells #[.int .u8 0, .bool false, .slice none 0 0] 28)) := (HP9.out.below hba).conv _
  have hset := set_any _ _ _ _ 34 false none 0 0 [] rk4 _ (HR9.out.below hbx) (by omega) (by omega) (Rd.nil _ _) (Nat.le_refl _) (by omega) (fun h => by omega)
  rw [rk_s5] at hset
  have HS3 := Lib.hid hset
  clear hset hba hbd hbx
  go_wp2_with fail
  refine HS3.out.mono ?_
  rintro e wb ⟨rfl, hrb, hcb⟩
  have hbbz := below_chg2 hbbx hcb (by omega) (by omega) (Nat.le_refl _)
  clear hrb hcb
  go_wp2
  go_ret
  exact ⟨rfl, hbbz⟩
end Go.Proofs.Ytleicgigkbfnbaa
