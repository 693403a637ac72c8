/- The pool: Put's closure. -/
import Derived.Test.YtocepcibcapfbaaGreatJ34
namespace Go.Proofs.YtocepcibcapfbaaGreat
set_option linter.unusedVariables false
set_option linter.unusedSimpArgs false
set_option linter.unusedSectionVars false
open Go.RowKit
variable [Inhabited AvT]
variable {B o c : Nat} {w : World} {p d np N : Nat} {x : P.Po}

/-- A block that is none of the pool's stays. -/
theorem TyX.box {w' : World} {b : Nat} {C : Array Value} {t : TypeId} (hT : TyX (fun k => k = o) B poT w w') (hk : w.heap[b]? = some (.cells C t (0, 0))) (hne : b ≠ o) (ht : ¬ poT (some t)) : w'.heap[b]? = some (.cells C t (0, 0)) := hT.cells hk hne (.inr ht)
theorem PoIs.ne (h : PoIs B o c w p d np N x) {b : Nat} {C : Array Value} {t : TypeId} (hk : w.heap[b]? = some (.cells C t (0, 0))) (h1 : t ≠ 3) (h2 : t ≠ 69) : b ≠ o := by
  obtain ⟨⟨mb, n, F, vo, V, hs⟩, -⟩ := h
  intro e
  rcases hs.ot.1 with h3 | h3
  · rw [← e, tagA_cells hk] at h3
    exact h1 (Option.some.inj (Option.some.inj h3))
  · rw [e, h3, hs.pool] at hk
    injection hk with hk
    injection hk with _ hk
    exact h2 hk.symm
theorem PoIs.rb {w' : World} {a : Option Addr} {m : Nat} {bs : List UInt8} (h : PoIs B o c w p d np N x) (hr : RB w a m bs) (hT : TyX (fun k => k = o) B poT w w') : RB w' a m bs := by
  obtain ⟨⟨mb, n, F, vo, V, hs⟩, -⟩ := h
  refine hr.x hT (by unfold poT devT; decide) (fun k hk e => ?_)
  subst hk
  rcases hs.ot.1 with h3 | h3
  · rw [h3] at e; simp at e
  · rw [h3, tagA_cells hs.pool] at e; simp at e
theorem PoIs.mono {c' : Nat} (h : PoIs B o c w p d np N x) (hc : c ≤ c') (hb : c' ≤ 1000000) : PoIs B o c' w p d np N x := by
  obtain ⟨⟨mb, n, F, vo, V, hs⟩, hok⟩ := h
  exact ⟨⟨mb, n, F, vo, V, hs.mono hc hb⟩, hok⟩
theorem PoV.mono {c' : Nat} {w' : World} (h : PoV B o c w p d np N x w') (hc : c ≤ c') (hb : c' ≤ 1000000) : PoV B o c' w p d np N x w' := by
  obtain ⟨o', h1, h2, h3⟩ := h
  exact ⟨o', h1, h2.mono hc hb, h3⟩
/-- The page's bytes are set, it is used: what a Put comes to. -/
theorem put_end {w6 w8 w9 : World} {o6 : Nat} {l : List P.Fr} {k : Nat} {f : P.Fr} {xd : P.Dv} (ho6 : o6 = o ∨ w.heap.size ≤ o6) (h6 : TyX (fun k => k = o) B poT w w6) (h8 : TyX (fun k => k = o6) B poT w6 w8) (h9 : PoW B o6 c w8 p d np N xd (MnS (P.at? l) k f) (((l.map (·.pg)).filter fun m => m != k) ++ [k]) w9) (hf : f.pg = k)
    (hx : x = ⟨xd, P.off l k ++ [f]⟩) (hok : x.ok N np) (hs : w6.heap.size ≤ w8.heap.size) : PoV B o c w p d np N x w9 := by
  subst hx
  have h := PoW.then (o1 := o6) (.inl rfl) h8 h9
  have h2 := PoW.then ho6 h6 h
  exact PoV.of h2 (mns_use l k f hf) (use_od l k f hf) rfl hok
theorem q5_cells {xd : P.Dv} {M : Nat → Option P.Fr} {od : List Nat} {mb n k : Nat} {F : Nat → Nat} {vo : Value} {V : Int → Option Value} {wa w5 : World} {bp bn : Nat} (h : PoS B o c w p d np N xd M od mb n F vo V) (hb : Below w.heap.size w wa) (hg : wa.grownBy w5 (some mb)) (k1 : w.heap[bp]? = some (.cells #[.pointer (some ⟨p, 0, none⟩)] 32 (0, 0))) (k2 : w.heap[bn]? = some (.cells #[.int .i64 (k : Int)] 3 (0, 0))) :
    w5.cell? ⟨bp, 0, none⟩ = some (.pointer (some ⟨p, 0, none⟩)) ∧ w5.cell? ⟨bn, 0, none⟩ = some (.int .i64 (k : Int)) ∧ w5.cell? ⟨p, 2, none⟩ = some (.map (some mb)) := by
  have hk : ∀ {j : Nat} {C : Array Value} {t : TypeId}, w.heap[j]? = some (.cells C t (0, 0)) → w5.heap[j]? = some (.cells C t (0, 0)) := fun {j C t} hj => by
    have h1 := (hb.block j (lt_of_block hj)).trans hj
    refine (hg.block j (lt_of_block h1) (fun e => ?_)).trans h1
    injection e with e
    have := h.map.tag
    rw [← e, tagA_cells hj] at this
    simp at this
  exact ⟨by rw [cell_blk (hk k1)]; rfl, by rw [cell_blk (hk k2)]; rfl, by rw [cell_blk (hk h.pool)]; rfl⟩
set_option maxRecDepth 100000 in
set_option maxHeartbeats 6400000 in
theorem put1_any (h : PoIs B o c w p d np N x) (n : Int) (hn : inI n) (a : Option Addr) (m cp : Nat) (bs : List UInt8) (hr : RB w a m bs) (hm : m ≤ 1048576) (hop : x.d.ops < 1000000) (hc : c < 1000000) (bp bn bb : Nat) (kp : w.heap[bp]? = some (.cells #[.pointer (some ⟨p, 0, none⟩)] 32 (0, 0))) (kn : w.heap[bn]? = some (.cells #[.int .i64 n] 3 (0, 0))) (kb : w.heap[bb]? = some (.cells #[.slice a m cp] 38 (0, 0))) (hbn : bn ≠ o) :
    Calls Tryz.prog 53 #[.pointer (some ⟨bp, 0, none⟩), .pointer (some ⟨bn, 0, none⟩), .pointer (some ⟨bb, 0, none⟩)] w (DoE B o (c + 1) p d np N (x.putP N np n bs) (x.putE N np n bs) w) := by
  have h0 := h
  replace h := h.mono (Nat.le_succ c) (by omega)
  have gp := cell_blk kp
  have gn := cell_blk kn
  have gb := cell_blk kb
  have hml := hr.1.1
  by_cases hrange : 0 ≤ n ∧ n < (np : Int)
  rotate_left
  · have HT := Lib.hid (there_xn h n hrange)
    have HF := Lib.hid (show ∀ w1, Below w.heap.size w w1 → DoE B o (c + 1) p d np N (x.putP N np n bs) (x.putE N np n bs) w (panE 1) w1 from fun w1 hb => by
      have e1 : x.putE N np n bs = 1 ∧ x.putP N np n bs = x := by unfold P.Po.putE P.Po.putP; rw [if_pos (by omega), if_pos (by omega)]; exact ⟨rfl, rfl⟩
      rw [e1.1, e1.2]
      exact ⟨h.self hb, .inr ⟨by decide, rfl⟩⟩)
    clear h hr hrange kp kn kb hop hn
    go_enter Tryz.func53, Tryz.ntmps53
    go_wp2_with fail
    refine HT.out.mono ?_
    rintro e w1 ⟨rfl, hb⟩
    exact ⟨rfl, HF.out _ hb⟩
  obtain ⟨k, rfl⟩ : ∃ k : Nat, n = (k : Int) := ⟨n.toNat, by omega⟩
  have hk : k < np := by omega
  have HT := Lib.hid (there_xd h k hk)
  by_cases h256 : m = 256
  rotate_left
  · have z1 : ((m : Int) != 256) = true := by simp; omega
    have HF := Lib.hid (show DoE B o (c + 1) p d np N (x.putP N np (k : Int) bs) (x.putE N np (k : Int) bs) w (panE 1) w from by
      have e1 : x.putE N np (k : Int) bs = 1 ∧ x.putP N np (k : Int) bs = x := by unfold P.Po.putE P.Po.putP; rw [if_pos (by omega), if_pos (by omega)]; exact ⟨rfl, rfl⟩
      rw [e1.1, e1.2]
      exact ⟨h.self (Below.refl _ _), .inr ⟨by decide, rfl⟩⟩)
    clear h hr hrange kp kn kb hop hn
    go_enter Tryz.func53, Tryz.ntmps53
    go_wp2_with (go_at_call 41; refine HT.out.mono ?_; rintro e w1 ⟨rfl, rfl⟩)
    exact ⟨rfl, HF.out⟩
  subst h256
  have hdr : Below w.heap.size w w.drew := below_of_drew (Below.refl _ _)
  have HDR := Lib.hid hdr
  have HOKP := Lib.hid (P.put_ok h.2 (k : Int) bs)
  have H := Lib.hid h
  have HKP := Lib.hid kp
  have HKN := Lib.hid kn
  have HKB := Lib.hid kb
  have HRB := Lib.hid hr
  have HBN := Lib.hid hbn
  have HML := Lib.hid hml
  have HC := Lib.hid hc
  have hnr : ¬ ((k : Int) < 0 ∨ (np : Int) ≤ (k : Int) ∨ bs.length ≠ 256) := by omega
  have hxo := h.2.1
  obtain ⟨⟨mb, nn, F, vo, V, hs⟩, hok⟩ := h
  have g := cell_blk hs.pool
  unfold poolC at g
  have HNP := Lib.hid hs.big.2.2.2.2
  rcases hat : P.at? x.l k with _ | f
  · have hlk : (Instr.lookup 67 (.map (some mb)) (.int .i64 (k : Int)) false).run Tryz.prog { w with drawn := w.drawn + 1 } = .ok (.pointer none) { w with drawn := w.drawn + 1 } := (hs.below hdr).look0 (k : Int) hn (.inr (by rw [Int.toNat_natCast]; exact hat))
    have HRM := Lib.hid (proom_any (h0.below hdr) hop)
    have HAT := Lib.hid (P.take_at (N := N) hat)
    have hE : x.putE N np (k : Int) bs = x.takeE N ∧ (x.takeE N = 0 → x.putP N np (k : Int) bs = ⟨(x.takeP N).d, (x.takeP N).l ++ [⟨k, 0, true, bs⟩]⟩) ∧ (x.takeE N ≠ 0 → x.putP N np (k : Int) bs = x.takeP N) := by
      unfold P.Po.putE P.Po.putP
      rw [if_neg hnr, if_neg hnr, Int.toNat_natCast, hat]
      exact ⟨rfl, fun h => if_pos h, fun h => if_neg h⟩
    have HE := Lib.hid hE
    clear hs hok hdr hop hn hrange hnr hr hxo hat hml hbn kp kn kb hm hE hc h0
    go_enter Tryz.func53, Tryz.ntmps53
    go_wp2_with (go_at_call 41; refine HT.out.mono ?_; rintro e w1 ⟨rfl, rfl⟩)
    refine wp_region_still_tail 6 (by kernel_rfl) (by kernel_rfl) ?_
    simp only [List.take_succ_cons, List.take_zero, List.drop_succ_cons, List.drop_zero]
    iterate 5 still_step
    refine wpStill_val rfl _ (x_look rfl rfl rfl hlk) ?_
    refine wpStill_nil ?_
    change wpList _ _ _ _ _ w.drew
    clear hlk g
    go_wp2_with fail
    refine HRM.out.mono ?_
    rintro e w1 ⟨hV, ⟨ht0, rfl⟩ | ⟨htn, rfl⟩⟩
    rotate_left
    · have HF := Lib.hid (show DoE B o (c + 1) p d np N (x.putP N np (k : Int) bs) (x.putE N np (k : Int) bs) w (panE (x.takeE N)) w1 from by
        rw [HE.out.1, HE.out.2.2 htn]
        exact ⟨(hV.pre HDR.out).mono (Nat.le_succ c) HC.out, .inr ⟨htn, rfl⟩⟩)
      generalize x.takeE N = E at *
      clear hV htn
      go_wp2
      exact ⟨rfl, HF.out⟩
    obtain ⟨o1, ho1, h1, hx1⟩ := hV
    have hx01 : TyX (fun k => k = o) B poT w w1 := (Ty.of_below HDR.out).x.trans hx1 (fun _ _ h => h)
    have k1 := hx01.box HKP.out (H.out.ne HKP.out (by decide) (by decide)) (by unfold poT devT; decide)
    have k2 := hx01.box HKN.out HBN.out (by unfold poT devT; decide)
    have k3 := hx01.box HKB.out (H.out.ne HKB.out (by decide) (by decide)) (by unfold poT devT; decide)
    have HR1 := Lib.hid (H.out.rb HRB.out hx01)
    have HO1 := Lib.hid (show o1 = o ∨ w.heap.size ≤ o1 from ho1)
    have HX01 := Lib.hid hx01
    have HOK1 := Lib.hid h1.2
    have HPE := Lib.hid (show x.putE N np (k : Int) bs = 0 ∧ x.putP N np (k : Int) bs = ⟨(x.takeP N).d, P.off (x.takeP N).l k ++ [⟨k, 0, true, bs⟩]⟩ from ⟨by rw [HE.out.1]; exact ht0, by rw [HE.out.2.1 ht0, P.off_none HAT.out]⟩)
    obtain ⟨⟨mb6, n1, F1, vo6, V1, hs1⟩, -⟩ := h1
    have g1 := cell_blk hs1.pool
    unfold poolC at g1
    have gp1 := cell_blk k1
    have gn1 := cell_blk k2
    have HS1 := Lib.hid hs1
    have HK1 := Lib.hid k1
    have HK2 := Lib.hid k2
    have HK3 := Lib.hid k3
    have hp1 := hs1.lt.1
    have hl1 := lt_of_block k1
    have hl2 := lt_of_block k2
    have HMX := Lib.hid (show n1 < maxLen from by have := hs1.cap; have := hs1.big.1; unfold maxLen; omega)
    have HKI := Lib.hid (show inI (k : Int) from by have := HNP.out; unfold inI; omega)
    have HBW := Lib.hid (show ∀ q : Obj, Below w1.heap.size w1 (w1.drew.alloc q) from fun q => below_of_drew ((Below.refl _ w1.drew).alloc (Nat.le_refl _) _))
    clear ht0 hx1 hx01 ho1 hs1 k1 k2 k3 gp gn gb
    have HFZ := Lib.hid (show FrIs B (w1.drew.alloc (.cells #[.slice none 0 0, .bool false, .int .i64 0] 77)) w1.heap.size ⟨k, 0, false, []⟩ from ⟨none, 0, 0, alloc_new _ _ _ rfl, ⟨Rd.nil _ _, fun h => by omega⟩, by have := HS1.out.low; have := HS1.out.lt; omega, by simp⟩)
    obtain ⟨w6, hrun, hm5, hg5⟩ := (HS1.out.below (HBW.out (.cells #[.slice none 0 0, .bool false, .int .i64 0] 77))).map.store (k : Int) HKI.out HMX.out (.pointer (some ⟨w1.heap.size, 0, none⟩))
    change (Instr.mapUpdate 67 (.map (some mb6)) (.int .i64 (k : Int)) (.pointer (some ⟨w1.heap.size, 0, none⟩))).run Tryz.prog (w1.alloc (.cells #[.slice none 0 0, .bool false, .int .i64 0] 77)).drew = .ok () w6 at hrun
    have HM5 := Lib.hid hm5
    have HG5 := Lib.hid hg5
    have HQ5 := Lib.hid (show w6.cell? ⟨bp, 0, none⟩ = some (.pointer (some ⟨p, 0, none⟩)) ∧ w6.cell? ⟨bn, 0, none⟩ = some (.int .i64 (k : Int)) ∧ w6.cell? ⟨p, 2, none⟩ = some (.map (some mb6)) from q5_cells HS1.out (HBW.out _) HG5.out HK1.out HK2.out)
    clear hm5 hg5
    go_wp2_with fail
    go_region_held3 (fun w' => w'.cell? ⟨bp, 0, none⟩ = some (.pointer (some ⟨p, 0, none⟩)) ∧ w'.cell? ⟨bn, 0, none⟩ = some (.int .i64 (k : Int)) ∧ w'.cell? ⟨p, 2, none⟩ = some (.map (some mb6)))
      (first
        | (go_keep; done)
        | exact HQ5.out)
      (fail)
    have hnew := ((HS1.out.mono (Nat.le_succ c) HC.out).below (HBW.out (.cells #[.slice none 0 0, .bool false, .int .i64 0] 77))).newd HFZ.out (fun m g hm e => by
      have h1 := (HS1.out.fr m g hm).2.1.tag
      have h2 := tagA_lt h1
      omega) HM5.out HG5.out hk rfl (Nat.zero_le _) (by have := HS1.out.cap; omega)
    have k1' := hnew.2.cells ((HBW.out _).block _ (lt_of_block HK1.out) ▸ HK1.out) (.inr (by unfold poT devT; decide))
    have k2' := hnew.2.cells ((HBW.out _).block _ (lt_of_block HK2.out) ▸ HK2.out) (.inr (by unfold poT devT; decide))
    have k3' := hnew.2.cells ((HBW.out _).block _ (lt_of_block HK3.out) ▸ HK3.out) (.inr (by unfold poT devT; decide))
    have HR6 := Lib.hid ((HR1.out.below (HBW.out _)).ty hnew.2 (by unfold poT devT; decide))
    have HX15 : TyX (fun k => k = o1) B poT w1 w6 := (Ty.of_below (HBW.out (.cells #[.slice none 0 0, .bool false, .int .i64 0] 77))).x.trans hnew.2.x (fun _ _ h => h)
    have HTX6 := Lib.hid (show TyX (fun k => k = o) B poT w w6 from HX01.out.trans HX15 (fun i hi e => by
      rcases HO1.out with h | h
      · omega
      · omega))
    have H6 := Lib.hid hnew.1
    have KP6 := Lib.hid k1'
    have KN6 := Lib.hid k2'
    have KB6 := Lib.hid k3'
    have HO6 := Lib.hid HO1.out
    have HF6 := Lib.hid (show MnS (P.at? (x.takeP N).l) k (⟨k, 0, false, []⟩ : P.Fr) k = some ⟨k, 0, false, []⟩ from if_pos rfl)
    have HM6 := Lib.hid (show MnS (MnS (P.at? (x.takeP N).l) k (⟨k, 0, false, []⟩ : P.Fr)) k ⟨k, 0, true, bs⟩ = MnS (P.at? (x.takeP N).l) k ⟨k, 0, true, bs⟩ from by
      funext m
      unfold MnS
      by_cases e : m = k
      · rw [if_pos e, if_pos e]
      · rw [if_neg e, if_neg e, if_neg e])
    have HLEN := Lib.hid (show (x.takeP N).l.length ≤ 4096 from by have := HOK1.out.2.2.1; have := HS1.out.big.2.1; omega)
    generalize MnS (P.at? (x.takeP N).l) k (⟨k, 0, false, []⟩ : P.Fr) = M6 at *
    generalize FnS F1 k w1.heap.size = F6 at *
    generalize updI V1 (k : Int) (some (.pointer (some ⟨w1.heap.size, 0, none⟩))) = V6 at *
    clear hrun hnew k1' k2' k3' HX15 g1 gp1 gn1 hp1 hl1 hl2
    go_wp2_with fail
    have g6 := cell_blk H6.out.pool
    unfold poolC at g6
    have gp6 := cell_blk KP6.out
    have gn6 := cell_blk KN6.out
    have gb6 := cell_blk KB6.out
    have hd6 : Below w6.heap.size w6 w6.drew := below_of_drew (Below.refl _ _)
    have H6D := Lib.hid (H6.out.below hd6)
    have hlk6 : (Instr.lookup 67 (.map (some mb6)) (.int .i64 (k : Int)) false).run Tryz.prog { w6 with drawn := w6.drawn + 1 } = .ok (.pointer (some ⟨F6 k, 0, none⟩)) { w6 with drawn := w6.drawn + 1 } := H6D.out.look1 k hk _ HF6.out
    have HCL := Lib.hid (fun W (hW : Below w6.heap.size w6 W) => cln_any a 256 cp bs W (HR6.out.below hW).1 (by omega))
    have HD6 := Lib.hid hd6
    clear hd6
    go_wp2_with fail
    refine wp_region_still_tail 6 (by kernel_rfl) (by kernel_rfl) ?_
    simp only [List.take_succ_cons, List.take_zero, List.drop_succ_cons, List.drop_zero]
    iterate 5 still_step
    refine wpStill_val rfl _ (x_look rfl rfl rfl hlk6) ?_
    refine wpStill_nil ?_
    change wpList _ _ _ _ _ w6.drew
    clear hlk6 g6
    go_wp2_with fail
    refine (HCL.out _ HD6.out).mono ?_
    rintro e w7 ⟨v7, rfl, ho7, hb7⟩
    have hb67 := below_then HD6.out hb7 HD6.out.size
    have h7 := H6.out.below hb67
    obtain ⟨hfp7, hfr7, -, hpc7⟩ := h7.fr k _ HF6.out
    obtain ⟨a8, m8, c8, hfb7, hrb7, hBf7, hbl7⟩ := hfr7
    obtain ⟨a7, c7, hv7, -⟩ := ho7.form
    subst hv7
    have hrb := ho7.rb H6.out.dev.avs
    have gf7 := cell_blk hfb7
    have ff7 := free_blk hfb7
    have gp7 := cell_blk ((hb67.block _ (lt_of_block KP6.out)).trans KP6.out)
    have gn7 := cell_blk ((hb67.block _ (lt_of_block KN6.out)).trans KN6.out)
    unfold frC at gf7
    have H7 := Lib.hid h7
    have HFB7 := Lib.hid hfb7
    have HRB7 := Lib.hid hrb
    have HFP7 := Lib.hid hfp7
    have HPC7 := Lib.hid hpc7
    have HBF7 := Lib.hid hBf7
    have HB67 := Lib.hid hb67
    have nb1 : ¬ bp = F6 k := fun e => by have h1 := (HB67.out.block _ (lt_of_block KP6.out)).trans KP6.out; rw [e, hfb7] at h1; simp at h1
    have nb2 : ¬ bn = F6 k := fun e => by have h1 := (HB67.out.block _ (lt_of_block KN6.out)).trans KN6.out; rw [e, hfb7] at h1; simp at h1
    clear ho7 hb7 hb67 h7 hfp7 hpc7 hBf7 hbl7 hrb7 hrb hfb7 gp6 gn6 gb6
    go_wp2_with fail
    generalize hw8 : (w7.setCell ⟨F6 k, 0, none⟩ (.slice a7 bs.length c7)).setCell ⟨F6 k, 1, none⟩ (.bool true) = w8
    have hc8 : Chg (fun j => j = F6 k) w7 w8 := by rw [← hw8]; exact (setCell_chg _ _ _ _).trans (setCell_chg _ _ _ _)
    have hfb8 : w8.heap[F6 k]? = some (.cells (frC (.slice a7 bs.length c7) true (⟨k, 0, false, []⟩ : P.Fr).pins) 77 (0, 0)) := by rw [← hw8, blk_setCell (blk_setCell HFB7.out 0 _)]; rfl
    have ht8 := Ty.of_chg hc8 HFB7.out hfb8
    have hfr8 := H7.out.framed2 (f' := ⟨k, (⟨k, 0, false, []⟩ : P.Fr).pins, true, bs⟩) HF6.out hc8 rfl ⟨a7, _, c7, hfb8, HRB7.out.ty ht8 (by decide), HBF7.out, by have := HML.out; show bs.length ≤ 256; omega⟩ HPC7.out
    have HFR8 := Lib.hid hfr8
    have HC8 := Lib.hid hc8
    have HU8 := Lib.hid (puse_any hfr8.1 k hk (by have := HFR8.out.1.big.2.2.2.1; have := HLEN.out; rw [List.length_map]; omega))
    have HS8 := Lib.hid (show TyX (fun k => k = o1) B poT w6 w8 from (Ty.of_below HB67.out).x.trans hfr8.2.x (fun _ _ h => h))
    clear hw8 hc8 hfb8 ht8 hfr8 gf7 ff7
    refine HU8.out.mono ?_
    rintro e w9 ⟨rfl, hW⟩
    have HFI := Lib.hid (show DoE B o (c + 1) p d np N (x.putP N np (k : Int) bs) (x.putE N np (k : Int) bs) w (.returned (.tuple #[])) w9 from by
      refine ⟨?_, .inl ⟨HPE.out.1, rfl⟩⟩
      have hW2 := hW
      rw [HM6.out] at hW2
      exact put_end HO6.out HTX6.out HS8.out hW2 rfl HPE.out.2 HOKP.out HS8.out.size)
    clear hW
    go_wp2
    go_end0
    exact HFI.out
  · have hlk : (Instr.lookup 67 (.map (some mb)) (.int .i64 (k : Int)) false).run Tryz.prog { w with drawn := w.drawn + 1 } = .ok (.pointer (some ⟨F k, 0, none⟩)) { w with drawn := w.drawn + 1 } := (hs.below hdr).look1 k hk f hat
    have HPE := Lib.hid (show x.putE N np (k : Int) bs = 0 ∧ x.putP N np (k : Int) bs = ⟨x.d, P.off x.l k ++ [⟨k, f.pins, true, bs⟩]⟩ from by
      unfold P.Po.putE P.Po.putP
      rw [if_neg hnr, if_neg hnr, Int.toNat_natCast, hat]
      exact ⟨rfl, rfl⟩)
    have H6 := Lib.hid (hs.below hdr)
    have KP6 := Lib.hid (show w.drew.heap[bp]? = _ from kp)
    have KN6 := Lib.hid (show w.drew.heap[bn]? = _ from kn)
    have KB6 := Lib.hid (show w.drew.heap[bb]? = _ from kb)
    have HR6 := Lib.hid (hr.below hdr)
    have HTX6 := Lib.hid (show TyX (fun k => k = o) B poT w w.drew from (Ty.of_below hdr).x)
    have HO6 := Lib.hid (show o = o ∨ w.heap.size ≤ o from .inl rfl)
    have HF6 := Lib.hid hat
    have HM6 := Lib.hid (show MnS (P.at? x.l) k ⟨k, f.pins, true, bs⟩ = MnS (P.at? x.l) k ⟨k, f.pins, true, bs⟩ from rfl)
    have HLEN := Lib.hid (show x.l.length ≤ 4096 from by have := hok.2.2.1; have := hs.big.2.1; omega)
    obtain ⟨w6, hw6⟩ : ∃ w6, w6 = w.drew := ⟨_, rfl⟩
    rw [← hw6] at H6 KP6 KN6 KB6 HR6 HTX6
    have HW6 := Lib.hid hw6
    clear hs hok hdr hop hn hrange hnr hr hxo hat hml hbn kp kn kb hm hc h0 hw6
    go_enter Tryz.func53, Tryz.ntmps53
    go_wp2_with (go_at_call 41; refine HT.out.mono ?_; rintro e w1 ⟨rfl, rfl⟩)
    refine wp_region_still_tail 6 (by kernel_rfl) (by kernel_rfl) ?_
    simp only [List.take_succ_cons, List.take_zero, List.drop_succ_cons, List.drop_zero]
    iterate 5 still_step
    refine wpStill_val rfl _ (x_look rfl rfl rfl hlk) ?_
    refine wpStill_nil ?_
    change wpList _ _ _ _ _ w.drew
    rw [← HW6.out]
    clear hlk g gp gn gb
    go_wp2_with fail
    have g6 := cell_blk H6.out.pool
    unfold poolC at g6
    have gp6 := cell_blk KP6.out
    have gn6 := cell_blk KN6.out
    have gb6 := cell_blk KB6.out
    have hd6 : Below w6.heap.size w6 w6.drew := below_of_drew (Below.refl _ _)
    have H6D := Lib.hid (H6.out.below hd6)
    have hlk6 : (Instr.lookup 67 (.map (some mb)) (.int .i64 (k : Int)) false).run Tryz.prog { w6 with drawn := w6.drawn + 1 } = .ok (.pointer (some ⟨F k, 0, none⟩)) { w6 with drawn := w6.drawn + 1 } := H6D.out.look1 k hk _ HF6.out
    have HCL := Lib.hid (fun W (hW : Below w6.heap.size w6 W) => cln_any a 256 cp bs W (HR6.out.below hW).1 (by omega))
    have HD6 := Lib.hid hd6
    clear hd6
    go_wp2_with fail
    refine wp_region_still_tail 6 (by kernel_rfl) (by kernel_rfl) ?_
    simp only [List.take_succ_cons, List.take_zero, List.drop_succ_cons, List.drop_zero]
    iterate 5 still_step
    refine wpStill_val rfl _ (x_look rfl rfl rfl hlk6) ?_
    refine wpStill_nil ?_
    change wpList _ _ _ _ _ w6.drew
    clear hlk6 g6
    go_wp2_with fail
    refine (HCL.out _ HD6.out).mono ?_
    rintro e w7 ⟨v7, rfl, ho7, hb7⟩
    have hb67 := below_then HD6.out hb7 HD6.out.size
    have h7 := H6.out.below hb67
    obtain ⟨hfp7, hfr7, -, hpc7⟩ := h7.fr k _ HF6.out
    obtain ⟨a8, m8, c8, hfb7, hrb7, hBf7, hbl7⟩ := hfr7
    obtain ⟨a7, c7, hv7, -⟩ := ho7.form
    subst hv7
    have hrb := ho7.rb H6.out.dev.avs
    have gf7 := cell_blk hfb7
    have ff7 := free_blk hfb7
    have gp7 := cell_blk ((hb67.block _ (lt_of_block KP6.out)).trans KP6.out)
    have gn7 := cell_blk ((hb67.block _ (lt_of_block KN6.out)).trans KN6.out)
    unfold frC at gf7
    have H7 := Lib.hid h7
    have HFB7 := Lib.hid hfb7
    have HRB7 := Lib.hid hrb
    have HFP7 := Lib.hid hfp7
    have HPC7 := Lib.hid hpc7
    have HBF7 := Lib.hid hBf7
    have HB67 := Lib.hid hb67
    have nb1 : ¬ bp = F k := fun e => by have h1 := (HB67.out.block _ (lt_of_block KP6.out)).trans KP6.out; rw [e, hfb7] at h1; simp at h1
    have nb2 : ¬ bn = F k := fun e => by have h1 := (HB67.out.block _ (lt_of_block KN6.out)).trans KN6.out; rw [e, hfb7] at h1; simp at h1
    clear ho7 hb7 hb67 h7 hfp7 hpc7 hBf7 hbl7 hrb7 hrb hfb7 gp6 gn6 gb6
    go_wp2_with fail
    generalize hw8 : (w7.setCell ⟨F k, 0, none⟩ (.slice a7 bs.length c7)).setCell ⟨F k, 1, none⟩ (.bool true) = w8
    have hc8 : Chg (fun j => j = F k) w7 w8 := by rw [← hw8]; exact (setCell_chg _ _ _ _).trans (setCell_chg _ _ _ _)
    have hfb8 : w8.heap[F k]? = some (.cells (frC (.slice a7 bs.length c7) true f.pins) 77 (0, 0)) := by rw [← hw8, blk_setCell (blk_setCell HFB7.out 0 _)]; rfl
    have ht8 := Ty.of_chg hc8 HFB7.out hfb8
    have hfr8 := H7.out.framed2 (f' := ⟨k, f.pins, true, bs⟩) HF6.out hc8 rfl ⟨a7, _, c7, hfb8, HRB7.out.ty ht8 (by decide), HBF7.out, by have := HML.out; show bs.length ≤ 256; omega⟩ HPC7.out
    have HFR8 := Lib.hid hfr8
    have HC8 := Lib.hid hc8
    have HU8 := Lib.hid (puse_any hfr8.1 k hk (by have := HFR8.out.1.big.2.2.2.1; have := HLEN.out; rw [List.length_map]; omega))
    have HS8 := Lib.hid (show TyX (fun k => k = o) B poT w6 w8 from (Ty.of_below HB67.out).x.trans hfr8.2.x (fun _ _ h => h))
    clear hw8 hc8 hfb8 ht8 hfr8 gf7 ff7
    refine HU8.out.mono ?_
    rintro e w9 ⟨rfl, hW⟩
    have HFI := Lib.hid (show DoE B o (c + 1) p d np N (x.putP N np (k : Int) bs) (x.putE N np (k : Int) bs) w (.returned (.tuple #[])) w9 from by
      refine ⟨?_, .inl ⟨HPE.out.1, rfl⟩⟩
      have hW2 := hW
      exact put_end (.inl rfl) HTX6.out HS8.out hW2 rfl HPE.out.2 HOKP.out HS8.out.size)
    clear hW
    go_wp2
    go_end0
    exact HFI.out
end Go.Proofs.YtocepcibcapfbaaGreat
