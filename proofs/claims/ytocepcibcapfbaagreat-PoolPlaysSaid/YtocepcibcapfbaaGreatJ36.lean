/- The pool: Pin's closure. -/
import Derived.Test.YtocepcibcapfbaaGreatJ35
namespace Go.Proofs.YtocepcibcapfbaaGreat
set_option linter.unusedVariables false
set_option linter.unusedSimpArgs false
set_option linter.unusedSectionVars false
open Go.RowKit
variable [Inhabited AvT]
variable {B o c : Nat} {w : World} {p d np N : Nat} {x : P.Po}

/-- How Pin's closure ends. -/
def PnE (B o c : Nat) (p d np N : Nat) (x' : P.Po) (E : Int) (bs : List UInt8) (bo : Nat) (w : World) (e : Ending) (w' : World) : Prop :=
  (E ≠ 0 ∧ e = panE E ∧ PoV B o c w p d np N x' w') ∨ (E = 0 ∧ e = .returned (.tuple #[]) ∧ ∃ w3 v, PoV B o c w p d np N x' w3 ∧ w' = w3.setCell ⟨bo, 0, none⟩ v ∧ OB w3 w.heap.size v bs)
theorem mns2 (M : Nat → Option P.Fr) (k : Nat) (f g : P.Fr) : MnS (MnS M k f) k g = MnS M k g := by
  funext m
  unfold MnS
  by_cases e : m = k
  · rw [if_pos e, if_pos e]
  · rw [if_neg e, if_neg e, if_neg e]
/-- Read of a page that there is, over a pool. -/
def RdK (B o c : Nat) (p d np N : Nat) (x : P.Po) (k : Nat) (w : World) (a : Option Addr) (m : Nat) (w' : World) : Prop :=
  PoIs B o c w' p d np N ⟨x.d.rdD, x.l⟩ ∧ Ty B devT w w' ∧ (x.d.rdE = 0 → RB w' a m (P.pgD x.d.img k))
theorem pread_any (h : PoIs B o c w p d np N x) (k : Nat) (hk : k < np) (hop : x.d.ops < 1000000) : Calls Tryz.prog 37 #[.pointer (some ⟨d, 0, none⟩), .int .i64 (k : Int)] w fun e w' => ∃ a m cp, e = .returned (.tuple #[.slice a m cp, .int .i64 x.d.rdE]) ∧ RdK B o c p d np N x k w a m w' := by
  obtain ⟨⟨mb, n, F, vo, V, hs⟩, hok⟩ := h
  refine (dreadF B d np x.d (k : Int) w hs.dev hop).mono ?_
  rintro e w' (⟨h1, -, -⟩ | ⟨-, hD, hT, v, rfl, h7, h0⟩)
  · exact absurd ⟨by omega, by omega⟩ h1
  have hP : PoIs B o c w' p d np N ⟨x.d.rdD, x.l⟩ := ⟨⟨mb, n, F, vo, V, hs.devd hT hD⟩, ⟨hok.1, hok.2.1, hok.2.2.1, by rw [P.Dv.rd_img]; exact hok.2.2.2⟩⟩
  by_cases he : x.d.rdE = 0
  · obtain ⟨a, cp, rfl, -⟩ := (h0 he).form
    exact ⟨a, _, cp, rfl, hP, hT, fun _ => by have := (h0 he).rb hs.dev.avs; rw [Int.toNat_natCast] at this ⊢; exact this⟩
  · have h7' : x.d.rdE = 7 := by unfold P.Dv.rdE at he ⊢; split at he <;> simp_all
    rw [h7 h7']
    exact ⟨none, 0, 0, rfl, hP, hT, fun h => absurd h he⟩
theorem rdE_cases (x : P.Dv) : x.rdE = 0 ∨ x.rdE = 7 := by unfold P.Dv.rdE; split <;> simp
theorem PoS.ne {xd : P.Dv} {M : Nat → Option P.Fr} {od : List Nat} {mb n : Nat} {F : Nat → Nat} {vo : Value} {V : Int → Option Value} (hs : PoS B o c w p d np N xd M od mb n F vo V) {b : Nat} {C : Array Value} {t : TypeId} (hk : w.heap[b]? = some (.cells C t (0, 0))) (h1 : t ≠ 3) (h2 : t ≠ 69) : b ≠ o := by
  intro e
  rcases hs.ot.1 with h3 | h3
  · rw [← e, tagA_cells hk] at h3
    exact h1 (Option.some.inj (Option.some.inj h3))
  · rw [e, h3, hs.pool] at hk
    injection hk with hk
    injection hk with _ hk
    exact h2 hk.symm
/-- The page was used, its pins are more, its bytes were told: what a Pin comes to. -/
theorem pin_end {w6 w7 w9 : World} {o6 o7 : Nat} {l : List P.Fr} {k : Nat} {f : P.Fr} {M : Nat → Option P.Fr} {xd : P.Dv} (ho6 : o6 = o ∨ w.heap.size ≤ o6) (h6 : TyX (fun k => k = o) B poT w w6) (h7 : TyX (fun k => k = o6) B poT w6 w7) (ho7 : o7 = o6 ∨ w6.heap.size ≤ o7) (h9 : TyX (fun k => k = o7) B poT w7 w9)
    (hP : PoX B o7 c w9 p d np N xd M (((l.map (·.pg)).filter fun m => m != k) ++ [k])) (hM : M = MnS (P.at? l) k f) (hf : f.pg = k) (hx : x = ⟨xd, P.off l k ++ [f]⟩) (hok : x.ok N np) : PoV B o c w p d np N x w9 := by
  subst hx hM
  have h1 : PoW B o7 c w7 p d np N xd (MnS (P.at? l) k f) (((l.map (·.pg)).filter fun m => m != k) ++ [k]) w9 := ⟨o7, .inl rfl, hP, h9⟩
  exact PoV.of (PoW.then ho6 h6 (PoW.then ho7 h7 h1)) (mns_use l k f hf) (use_od l k f hf) rfl hok
set_option maxRecDepth 100000 in
set_option maxHeartbeats 6400000 in
theorem pin1_any (h : PoIs B o c w p d np N x) (n : Int) (hn : inI n) (hop : x.d.ops < 999000) (hc : c < 1000000) (bp bn bo : Nat) (v0 : Value) (kp : w.heap[bp]? = some (.cells #[.pointer (some ⟨p, 0, none⟩)] 32 (0, 0))) (kn : w.heap[bn]? = some (.cells #[.int .i64 n] 3 (0, 0))) (kb : w.heap[bo]? = some (.cells #[v0] 38 (0, 0))) (hbn : bn ≠ o) :
    Calls Tryz.prog 40 #[.pointer (some ⟨bp, 0, none⟩), .pointer (some ⟨bn, 0, none⟩), .pointer (some ⟨bo, 0, none⟩)] w (PnE B o (c + 1) p d np N (x.pinP N np n) (x.pinE N np n) (x.pinB N np n) bo w) := by
  have h0 := h
  replace h := h.mono (Nat.le_succ c) (by omega)
  have gp := cell_blk kp
  have gn := cell_blk kn
  by_cases hrange : 0 ≤ n ∧ n < (np : Int)
  rotate_left
  · have HT := Lib.hid (there_xn h n hrange)
    have HF := Lib.hid (show ∀ w1, Below w.heap.size w w1 → PnE B o (c + 1) p d np N (x.pinP N np n) (x.pinE N np n) (x.pinB N np n) bo w (panE 1) w1 from fun w1 hb => by
      have e1 : x.pinE N np n = 1 ∧ x.pinP N np n = x := by unfold P.Po.pinE P.Po.pinP; rw [if_pos (by omega), if_pos (by omega)]; exact ⟨rfl, rfl⟩
      rw [e1.1, e1.2]
      exact .inl ⟨by decide, rfl, h.self hb⟩)
    clear h hrange kp kn kb hop hn
    go_enter Tryz.func40, Tryz.ntmps40
    go_wp2_with fail
    refine HT.out.mono ?_
    rintro e w1 ⟨rfl, hb⟩
    exact ⟨rfl, HF.out _ hb⟩
  obtain ⟨k, rfl⟩ : ∃ k : Nat, n = (k : Int) := ⟨n.toNat, by omega⟩
  have hk : k < np := by omega
  have HT := Lib.hid (there_xd h k hk)
  have hdr : Below w.heap.size w w.drew := below_of_drew (Below.refl _ _)
  have HDR := Lib.hid hdr
  have HOKP := Lib.hid (P.pin_ok h.2 (k : Int))
  have H := Lib.hid h
  have HKP := Lib.hid kp
  have HKN := Lib.hid kn
  have HKB := Lib.hid kb
  have HBN := Lib.hid hbn
  have HC := Lib.hid hc
  have hnr : ¬ ((k : Int) < 0 ∨ (np : Int) ≤ (k : Int)) := by omega
  obtain ⟨⟨mb, nn, F, vo, V, hs⟩, hok⟩ := h
  have HIMG := Lib.hid hok.2.2.2
  have g := cell_blk hs.pool
  unfold poolC at g
  have HNP := Lib.hid hs.big.2.2.2.2
  rcases hat : P.at? x.l k with _ | f
  · have hlk : (Instr.lookup 67 (.map (some mb)) (.int .i64 (k : Int)) false).run Tryz.prog { w with drawn := w.drawn + 1 } = .ok (.pointer none) { w with drawn := w.drawn + 1 } := (hs.below hdr).look0 (k : Int) hn (.inr (by rw [Int.toNat_natCast]; exact hat))
    have HRM := Lib.hid (proom_any (h0.below hdr) (by omega))
    have HAT := Lib.hid (P.take_at (N := N) hat)
    have hE : x.pinE N np (k : Int) = (if x.takeE N = 0 then (x.takeP N).d.rdE else x.takeE N) ∧ (x.takeE N = 0 → x.pinP N np (k : Int) = (if (x.takeP N).d.rdE = 0 then ⟨(x.takeP N).d.rdD, (x.takeP N).l ++ [⟨k, 1, false, P.pgD (x.takeP N).d.img k⟩]⟩ else ⟨(x.takeP N).d.rdD, (x.takeP N).l⟩)) ∧ (x.takeE N ≠ 0 → x.pinP N np (k : Int) = x.takeP N) ∧ (x.takeE N = 0 → (x.takeP N).d.rdE = 0 → x.pinB N np (k : Int) = P.pgD (x.takeP N).d.img k) := by
      unfold P.Po.pinE P.Po.pinP P.Po.pinB
      rw [if_neg hnr, if_neg hnr, if_neg hnr, Int.toNat_natCast, hat]
      exact ⟨rfl, fun h => if_pos h, fun h => if_neg h, fun h h2 => if_pos ⟨h, h2⟩⟩
    have HE := Lib.hid hE
    have HTO := Lib.hid (show (x.takeP N).d.ops < 1000000 from by have := P.take_ops x N; omega)
    clear hs hok hdr hop hn hrange hnr hat hbn kp kn kb hE hc h0
    go_enter Tryz.func40, Tryz.ntmps40
    go_wp2_with (go_at_call 41; refine HT.out.mono ?_; rintro e w1 ⟨rfl, rfl⟩)
    refine wp_region_still_tail 6 (by kernel_rfl) (by kernel_rfl) ?_
    simp only [List.take_succ_cons, List.take_zero, List.drop_succ_cons, List.drop_zero]
    iterate 5 still_step
    refine wpStill_val rfl _ (x_look rfl rfl rfl hlk) ?_
    refine wpStill_nil ?_
    change wpList _ _ _ _ _ w.drew
    clear hlk g
    go_wp2_with fail
    refine HRM.out.mono ?_
    rintro e w1 ⟨hV, ⟨ht0, rfl⟩ | ⟨htn, rfl⟩⟩
    rotate_left
    · have HF := Lib.hid (show PnE B o (c + 1) p d np N (x.pinP N np (k : Int)) (x.pinE N np (k : Int)) (x.pinB N np (k : Int)) bo w (panE (x.takeE N)) w1 from by
        rw [HE.out.1, if_neg htn, HE.out.2.2.1 htn]
        exact .inl ⟨htn, rfl, (hV.pre HDR.out).mono (Nat.le_succ c) HC.out⟩)
      generalize x.takeE N = E at *
      clear hV htn
      go_wp2
      exact ⟨rfl, HF.out⟩
    have hE2 : x.pinE N np (k : Int) = (x.takeP N).d.rdE := by rw [HE.out.1, if_pos ht0]
    have HE2 := Lib.hid (And.intro hE2 (And.intro (HE.out.2.1 ht0) (HE.out.2.2.2 ht0)))
    clear hE2
    obtain ⟨o1, ho1, h1, hx1⟩ := hV
    have hx01 : TyX (fun k => k = o) B poT w w1 := (Ty.of_below HDR.out).x.trans hx1 (fun _ _ h => h)
    have k1 := hx01.box HKP.out (H.out.ne HKP.out (by decide) (by decide)) (by unfold poT devT; decide)
    have k2 := hx01.box HKN.out HBN.out (by unfold poT devT; decide)
    have k3 := hx01.box HKB.out (H.out.ne HKB.out (by decide) (by decide)) (by unfold poT devT; decide)
    have HO1 := Lib.hid (show o1 = o ∨ w.heap.size ≤ o1 from ho1)
    have HOK1 := Lib.hid h1.2
    generalize x.takeP N = y at *
    have hd1 : Below w1.heap.size w1 w1.drew := below_of_drew (Below.refl _ _)
    have HRD := Lib.hid (show ∀ W, W = w1.drew → Calls Tryz.prog 37 #[.pointer (some ⟨d, 0, none⟩), .int .i64 (k : Int)] W fun e w' => ∃ a m cp, e = .returned (.tuple #[.slice a m cp, .int .i64 y.d.rdE]) ∧ RdK B o1 c p d np N y k W a m w' from fun W hW => by rw [hW]; exact pread_any (h1.below hd1) k hk HTO.out)
    obtain ⟨⟨mb1, n1, F1, vo1, V1, hs1⟩, -⟩ := h1
    have g1 := cell_blk hs1.pool
    unfold poolC at g1
    have gp1 := cell_blk k1
    have gn1 := cell_blk k2
    have HP1 := Lib.hid hs1.pool
    have HN1 := Lib.hid hs1.big.2.1
    have HX01 := Lib.hid hx01
    have HK1 := Lib.hid k1
    have HK2 := Lib.hid k2
    have HK3 := Lib.hid k3
    have HD1 := Lib.hid hd1
    obtain ⟨RE, hRE⟩ : ∃ RE, RE = y.d.rdE := ⟨_, rfl⟩
    rw [← hRE] at HRD
    have HRE := Lib.hid hRE
    clear ht0 hx1 hx01 ho1 hs1 k1 k2 k3 gp gn hd1 hRE
    go_wp2_with fail
    go_region_held3 (fun w' => w'.cell? ⟨bp, 0, none⟩ = some (.pointer (some ⟨p, 0, none⟩)) ∧ w'.cell? ⟨bn, 0, none⟩ = some (.int .i64 (k : Int)) ∧ w'.cell? ⟨p, 0, none⟩ = some (.pointer (some ⟨d, 0, none⟩)))
      (first
        | (go_keep; done)
        | exact HQ2.out)
      ((go_at_call 37; refine (HRD.out _ rfl).mono ?_; rintro e w2 ⟨a2, m2, c2, rfl, hK2⟩; have HK22 := Lib.hid hK2; have HQ2 := Lib.hid (show w2.cell? ⟨bp, 0, none⟩ = some (.pointer (some ⟨p, 0, none⟩)) ∧ w2.cell? ⟨bn, 0, none⟩ = some (.int .i64 (k : Int)) ∧ w2.cell? ⟨p, 0, none⟩ = some (.pointer (some ⟨d, 0, none⟩)) from ⟨by rw [cell_blk (HK22.out.2.1.cells (show w1.drew.heap[bp]? = _ from HK1.out) (.inr (by unfold devT; decide)))]; rfl, by rw [cell_blk (HK22.out.2.1.cells (show w1.drew.heap[bn]? = _ from HK2.out) (.inr (by unfold devT; decide)))]; rfl, by rw [cell_blk (HK22.out.2.1.cells (show w1.drew.heap[p]? = _ from HP1.out) (.inr (by unfold devT; decide)))]; rfl⟩); clear hK2))
    have hP2 := HK22.out.1
    have hT2 := HK22.out.2.1
    have hx02 : TyX (fun k => k = o) B poT w w2 := (HX01.out.trans (Ty.of_below HD1.out).x (Y := fun k => k = o) (fun _ _ h => h)).trans (hT2.mono (Nat.le_refl _) (fun t h => .inl h)).x (Y := fun k => k = o) (fun _ _ h => h)
    have k1 := hT2.cells (show w1.drew.heap[bp]? = _ from HK1.out) (.inr (by unfold devT; decide))
    have k2 := hT2.cells (show w1.drew.heap[bn]? = _ from HK2.out) (.inr (by unfold devT; decide))
    have k3 := hT2.cells (show w1.drew.heap[bo]? = _ from HK3.out) (.inr (by unfold devT; decide))
    have HX02 := Lib.hid hx02
    have HP2 := Lib.hid hP2
    have HL1 := Lib.hid k1
    have HL2 := Lib.hid k2
    have HL3 := Lib.hid k3
    clear g1 gp1 gn1 hP2 hT2 hx02
    rcases rdE_cases y.d with e0 | e7
    rotate_left
    · have HF := Lib.hid (show ∀ w3, Below w2.heap.size w2 w3 → PnE B o (c + 1) p d np N (x.pinP N np (k : Int)) (x.pinE N np (k : Int)) (x.pinB N np (k : Int)) bo w (panE 7) w3 from fun w3 hb3 => by
        rw [HE2.out.1, HE2.out.2.1, e7, if_neg (by decide)]
        exact .inl ⟨by decide, rfl, o1, HO1.out, (HP2.out.mono (Nat.le_succ c) HC.out).below hb3, HX02.out.trans (Ty.of_below hb3).x (Y := fun k => k = o) (fun _ _ h => h)⟩)
      have h7 : RE = 7 := by rw [HRE.out, e7]
      subst h7
      clear e7 k1 k2 k3
      go_wp2_with fail
      refine (mustp_no 7 (by decide) w2).mono ?_
      rintro e w3 ⟨rfl, hb3⟩
      exact ⟨rfl, HF.out _ hb3⟩
    have HE0 := Lib.hid e0
    have h7 : RE = 0 := by rw [HRE.out, e0]
    subst h7
    have gp2 := cell_blk k1
    have gn2 := cell_blk k2
    clear e0 k1 k2 k3
    go_wp2_with fail
    refine (mustp_ok w2).mono ?_
    rintro e w3 ⟨rfl, rfl⟩
    obtain ⟨⟨mb6, n2, F2, vo6, V2, hs2⟩, -⟩ := HP2.out
    have g2 := cell_blk hs2.pool
    unfold poolC at g2
    have HS2 := Lib.hid hs2
    have hp2 := hs2.lt.1
    have hl1 := lt_of_block HL1.out
    have hl2 := lt_of_block HL2.out
    have HMX := Lib.hid (show n2 < maxLen from by have := hs2.cap; have := hs2.big.1; unfold maxLen; omega)
    have HKI := Lib.hid (show inI (k : Int) from by have := HNP.out; unfold inI; omega)
    have HBW := Lib.hid (show ∀ q : Obj, Below w2.heap.size w2 (w2.drew.alloc q) from fun q => below_of_drew ((Below.refl _ w2.drew).alloc (Nat.le_refl _) _))
    have HFZ := Lib.hid (show FrIs B (w2.drew.alloc (.cells #[.slice a2 m2 c2, .bool false, .int .i64 0] 77)) w2.heap.size ⟨k, 0, false, P.pgD y.d.img k⟩ from ⟨a2, m2, c2, alloc_new _ _ _ rfl, (HK22.out.2.2 HE0.out).below (HBW.out _), by have := HS2.out.low; have := HS2.out.lt; omega, by have := pgF_length y.d.img np k HOK1.out.2.2.2 hk; show (P.pgD y.d.img k).length ≤ 256; omega⟩)
    obtain ⟨w6, hrun, hm5, hg5⟩ := (HS2.out.below (HBW.out (.cells #[.slice a2 m2 c2, .bool false, .int .i64 0] 77))).map.store (k : Int) HKI.out HMX.out (.pointer (some ⟨w2.heap.size, 0, none⟩))
    change (Instr.mapUpdate 67 (.map (some mb6)) (.int .i64 (k : Int)) (.pointer (some ⟨w2.heap.size, 0, none⟩))).run Tryz.prog (w2.alloc (.cells #[.slice a2 m2 c2, .bool false, .int .i64 0] 77)).drew = .ok () w6 at hrun
    have HM5 := Lib.hid hm5
    have HG5 := Lib.hid hg5
    have HQ5 := Lib.hid (show w6.cell? ⟨bp, 0, none⟩ = some (.pointer (some ⟨p, 0, none⟩)) ∧ w6.cell? ⟨bn, 0, none⟩ = some (.int .i64 (k : Int)) ∧ w6.cell? ⟨p, 2, none⟩ = some (.map (some mb6)) from q5_cells HS2.out (HBW.out _) HG5.out HL1.out HL2.out)
    clear hm5 hg5 hs2
    go_wp2_with fail
    go_region_held3 (fun w' => w'.cell? ⟨bp, 0, none⟩ = some (.pointer (some ⟨p, 0, none⟩)) ∧ w'.cell? ⟨bn, 0, none⟩ = some (.int .i64 (k : Int)) ∧ w'.cell? ⟨p, 2, none⟩ = some (.map (some mb6)))
      (first
        | (go_keep; done)
        | exact HQ5.out)
      (fail)
    have hnew := ((HS2.out.mono (Nat.le_succ c) HC.out).below (HBW.out (.cells #[.slice a2 m2 c2, .bool false, .int .i64 0] 77))).newd HFZ.out (fun m g hm e => by
      have h1 := (HS2.out.fr m g hm).2.1.tag
      have h2 := tagA_lt h1
      omega) HM5.out HG5.out hk rfl (Nat.zero_le _) (by have := HS2.out.cap; omega)
    have k1' := hnew.2.cells ((HBW.out _).block _ (lt_of_block HL1.out) ▸ HL1.out) (.inr (by unfold poT devT; decide))
    have k2' := hnew.2.cells ((HBW.out _).block _ (lt_of_block HL2.out) ▸ HL2.out) (.inr (by unfold poT devT; decide))
    have k3' := hnew.2.cells ((HBW.out _).block _ (lt_of_block HL3.out) ▸ HL3.out) (.inr (by unfold poT devT; decide))
    have HTX6 := Lib.hid (show TyX (fun k => k = o) B poT w w6 from HX02.out.trans ((Ty.of_below (HBW.out (.cells #[.slice a2 m2 c2, .bool false, .int .i64 0] 77))).x.trans hnew.2.x (X := fun k => k = o1) (Y := fun k => k = o1) (fun _ _ h => h)) (fun i hi e => by
      rcases HO1.out with h | h
      · omega
      · omega))
    have H6 := Lib.hid hnew.1
    have KP6 := Lib.hid k1'
    have KN6 := Lib.hid k2'
    have KB6 := Lib.hid k3'
    have HO6 := Lib.hid HO1.out
    have HB6 := Lib.hid (show bn ≠ o1 from by have := HO1.out; have := HBN.out; have := lt_of_block HKN.out; omega)
    have HF6 := Lib.hid (show MnS (P.at? y.l) k (⟨k, 0, false, P.pgD y.d.img k⟩ : P.Fr) k = some ⟨k, 0, false, P.pgD y.d.img k⟩ from if_pos rfl)
    have HM6 := Lib.hid (show MnS (MnS (P.at? y.l) k (⟨k, 0, false, P.pgD y.d.img k⟩ : P.Fr)) k ⟨k, 1, false, P.pgD y.d.img k⟩ = MnS (P.at? y.l) k ⟨k, 1, false, P.pgD y.d.img k⟩ from mns2 _ _ _ _)
    have HLEN := Lib.hid (show y.l.length ≤ 4096 from by have := HOK1.out.2.2.1; have := HN1.out; omega)
    have HPE := Lib.hid (show x.pinE N np (k : Int) = 0 ∧ x.pinP N np (k : Int) = ⟨y.d.rdD, P.off y.l k ++ [⟨k, 1, false, P.pgD y.d.img k⟩]⟩ ∧ x.pinB N np (k : Int) = P.pgD y.d.img k from ⟨by rw [HE2.out.1, HE0.out], by rw [HE2.out.2.1, if_pos HE0.out, P.off_none HAT.out], HE2.out.2.2 HE0.out⟩)
    have HBI := Lib.hid (show (P.pgD y.d.img k).length = 256 from pgF_length y.d.img np k HOK1.out.2.2.2 hk)
    generalize MnS (P.at? y.l) k (⟨k, 0, false, P.pgD y.d.img k⟩ : P.Fr) = M6 at *
    generalize FnS F2 k w2.heap.size = F6 at *
    generalize updI V2 (k : Int) (some (.pointer (some ⟨w2.heap.size, 0, none⟩))) = V6 at *
    obtain ⟨f6, hf6⟩ : ∃ f6 : P.Fr, f6 = ⟨k, 0, false, P.pgD y.d.img k⟩ := ⟨_, rfl⟩
    rw [← hf6] at HF6
    have HFQ := Lib.hid (show (⟨k, f6.pins + 1, f6.dirty, f6.b⟩ : P.Fr) = ⟨k, 1, false, P.pgD y.d.img k⟩ ∧ f6.b = P.pgD y.d.img k from by rw [hf6]; exact ⟨rfl, rfl⟩)
    clear hrun hnew k1' k2' k3' g2 gp2 gn2 hp2 hl1 hl2 hf6
    have gp6 := cell_blk KP6.out
    have gn6 := cell_blk KN6.out
    have HPB := Lib.hid (show f6.pins + 1 ≤ c + 1 from by have h1 := HFQ.out.1; injection h1; omega)
    have HU6 := Lib.hid (puse_any H6.out k hk (by have := HLEN.out; rw [List.length_map]; omega))
    go_wp2_with fail
    refine HU6.out.mono ?_
    rintro e w7 ⟨rfl, o7, ho7, ⟨mb7, n7, F7, vo7, V7, h7⟩, hx7⟩
    have k1 := hx7.box KP6.out (PoS.ne H6.out KP6.out (by decide) (by decide)) (by unfold poT devT; decide)
    have k2 := hx7.box KN6.out HB6.out (by unfold poT devT; decide)
    have k3 := hx7.box KB6.out (PoS.ne H6.out KB6.out (by decide) (by decide)) (by unfold poT devT; decide)
    have hd7 : Below w7.heap.size w7 w7.drew := below_of_drew (Below.refl _ _)
    have hlk7 : (Instr.lookup 67 (.map (some mb7)) (.int .i64 (k : Int)) false).run Tryz.prog { w7 with drawn := w7.drawn + 1 } = .ok (.pointer (some ⟨F7 k, 0, none⟩)) { w7 with drawn := w7.drawn + 1 } := (h7.below hd7).look1 k hk _ HF6.out
    obtain ⟨hfp7, hfr7, -, hpc7⟩ := h7.fr k _ HF6.out
    obtain ⟨a8, m8, c8, hfb7, hrb7, hBf7, hbl7⟩ := hfr7
    have gf7 := cell_blk hfb7
    have ff7 := free_blk hfb7
    unfold frC at gf7
    have g7 := cell_blk h7.pool
    unfold poolC at g7
    have gp7 := cell_blk k1
    have gn7 := cell_blk k2
    have i7 : ((f6.pins : Nat) : Int) ≤ 1000000 := by have := h7.big.1; omega
    have j7 : (0 : Int) ≤ ((f6.pins : Nat) : Int) := by omega
    have nb1 : ¬ bp = F7 k := fun e => by have h1 := k1; rw [e, hfb7] at h1; simp at h1
    have nb2 : ¬ bn = F7 k := fun e => by have h1 := k2; rw [e, hfb7] at h1; simp at h1
    have nb3 : ¬ p = F7 k := fun e => by have h1 := h7.pool; rw [e, hfb7] at h1; simp at h1
    have H7 := Lib.hid h7
    have HX7 := Lib.hid hx7
    have HO7 := Lib.hid ho7
    have KP7 := Lib.hid k1
    have KN7 := Lib.hid k2
    have KB7 := Lib.hid k3
    have HFB7 := Lib.hid hfb7
    have HRB7 := Lib.hid hrb7
    have HQ7 := Lib.hid (And.intro hfp7 (And.intro hpc7 (And.intro hBf7 hbl7)))
    clear h7 hx7 ho7 k1 k2 k3 hfb7 hrb7 hfp7 hpc7 hBf7 hbl7 hd7 gp6 gn6
    go_wp2_with fail
    refine wp_region_still_tail 12 (by kernel_rfl) (by kernel_rfl) ?_
    simp only [List.take_succ_cons, List.take_zero, List.drop_succ_cons, List.drop_zero]
    iterate 5 still_step
    refine wpStill_val rfl _ (x_look rfl rfl rfl hlk7) ?_
    repeat still_step
    refine wpStill_nil ?_
    change wpList _ _ _ _ _ w7.drew
    clear hlk7 g7
    go_wp2_with fail
    generalize hw8 : (World.setCell w7 ⟨F7 k, 2, none⟩ _).drew = w8
    have hc8 : Chg (fun j => j = F7 k) w7 w8 := by rw [← hw8]; exact Chg.drew (setCell_chg w7 _ _ _)
    have hfb8 : w8.heap[F7 k]? = some (.cells (frC (.slice a8 m8 c8) f6.dirty (f6.pins + 1)) 77 (0, 0)) := by rw [← hw8]; exact (blk_setCell HFB7.out 2 _).trans rfl
    have ht8 := Ty.of_chg hc8 HFB7.out hfb8
    have hfr8 := (H7.out.mono (Nat.le_refl _) H7.out.big.1).framed2 (f' := ⟨k, f6.pins + 1, f6.dirty, f6.b⟩) HF6.out hc8 rfl ⟨a8, m8, c8, hfb8, HRB7.out.ty ht8 (by decide), HQ7.out.2.2.1, HQ7.out.2.2.2⟩ (HPB.out)
    have hd8 : Below w8.heap.size w8 w8.drew := below_of_drew (Below.refl _ _)
    have hlk8 : (Instr.lookup 67 (.map (some mb7)) (.int .i64 (k : Int)) false).run Tryz.prog { w8 with drawn := w8.drawn + 1 } = .ok (.pointer (some ⟨F7 k, 0, none⟩)) { w8 with drawn := w8.drawn + 1 } := (hfr8.1.below hd8).look1 k hk _ (if_pos rfl)
    have g8 := cell_blk hfr8.1.pool
    unfold poolC at g8
    have gf8 := cell_blk hfb8
    unfold frC at gf8
    have gp8 := cell_blk (hfr8.2.cells KP7.out (.inr (by unfold poT devT; decide)))
    have gn8 := cell_blk (hfr8.2.cells KN7.out (.inr (by unfold poT devT; decide)))
    have KB8 := Lib.hid (hfr8.2.cells KB7.out (.inr (by unfold poT devT; decide)))
    have HCL := Lib.hid (show ∀ W, W = w8.drew → Calls Tryz.prog 45 #[.slice a8 m8 c8] W fun e w' => ∃ v, e = .returned v ∧ OB w' W.heap.size v f6.b ∧ Below W.heap.size W w' from fun W hW => by rw [hW]; exact cln_any a8 m8 c8 f6.b w8.drew ((HRB7.out.ty ht8 (by decide)).below hd8).1 (by have h1 := HRB7.out.1.1; have h2 := HQ7.out.2.2.2; omega))
    have HF8 := Lib.hid hfr8
    have HD8 := Lib.hid hd8
    clear hw8 hc8 hfb8 ht8 hfr8 gf7 ff7 gp7 gn7 i7 j7 hd8
    go_wp2_with fail
    refine wp_region_still_tail 9 (by kernel_rfl) (by kernel_rfl) ?_
    simp only [List.take_succ_cons, List.take_zero, List.drop_succ_cons, List.drop_zero]
    iterate 5 still_step
    refine wpStill_val rfl _ (x_look rfl rfl rfl hlk8) ?_
    repeat still_step
    refine wpStill_nil ?_
    change wpList _ _ _ _ _ w8.drew
    clear hlk8 g8 gf8 gp8 gn8
    go_wp2_with fail
    refine (HCL.out _ rfl).mono ?_
    rintro e w9 ⟨v9, rfl, ho9, hb9⟩
    have hb89 := below_then HD8.out hb9 HD8.out.size
    have kb9 := (hb89.block _ (lt_of_block KB8.out)).trans KB8.out
    have gb9 := cell_blk kb9
    have fb9 := free_blk kb9
    have HFI := Lib.hid (show PnE B o (c + 1) p d np N (x.pinP N np (k : Int)) (x.pinE N np (k : Int)) (x.pinB N np (k : Int)) bo w (.returned (.tuple #[])) (w9.setCell ⟨bo, 0, none⟩ v9) from by
      refine .inr ⟨HPE.out.1, rfl, w9, v9, ?_, rfl, ?_⟩
      · refine pin_end (o6 := o1) HO6.out HTX6.out HX7.out HO7.out (HF8.out.2.x.trans (Ty.of_below hb89).x (fun _ _ h => h)) ⟨mb7, n7, F7, vo7, V7, HF8.out.1.below hb89⟩ ?_ rfl HPE.out.2.1 HOKP.out
        rw [HFQ.out.1, HM6.out]
      · rw [HPE.out.2.2]
        rw [← HFQ.out.2]
        exact ho9.mono (by have h1 := HTX6.out.size; have h2 := HX7.out.size; have h3 := HF8.out.2.size; have h4 := HD8.out.size; omega))
    obtain ⟨a9, c9, hv9, -⟩ := ho9.form
    subst hv9
    clear ho9 hb9 hb89 kb9
    go_wp2
    go_end0
    exact HFI.out
  · have hlk : (Instr.lookup 67 (.map (some mb)) (.int .i64 (k : Int)) false).run Tryz.prog { w with drawn := w.drawn + 1 } = .ok (.pointer (some ⟨F k, 0, none⟩)) { w with drawn := w.drawn + 1 } := (hs.below hdr).look1 k hk f hat
    have hfo := hok.2.1 f (P.at_some hat).1
    have HPC := Lib.hid (show f.pins ≤ c from by obtain ⟨⟨mb', n', F', vo', V', hs'⟩, -⟩ := h0; exact (hs'.fr k f hat).2.2.2)
    have hfp := (P.at_some hat).2
    have HPE := Lib.hid (show x.pinE N np (k : Int) = 0 ∧ x.pinP N np (k : Int) = ⟨x.d, P.off x.l k ++ [⟨k, f.pins + 1, f.dirty, f.b⟩]⟩ ∧ x.pinB N np (k : Int) = f.b from by
      unfold P.Po.pinE P.Po.pinP P.Po.pinB
      rw [if_neg hnr, if_neg hnr, if_neg hnr, Int.toNat_natCast, hat]
      refine ⟨rfl, ?_, rfl⟩
      rw [← hfp])
    have H6 := Lib.hid (hs.below hdr)
    have KP6 := Lib.hid (show w.drew.heap[bp]? = _ from kp)
    have KN6 := Lib.hid (show w.drew.heap[bn]? = _ from kn)
    have KB6 := Lib.hid (show w.drew.heap[bo]? = _ from kb)
    have HTX6 := Lib.hid (show TyX (fun k => k = o) B poT w w.drew from (Ty.of_below hdr).x)
    have HB6 := Lib.hid hbn
    have HF6 := Lib.hid hat
    have HLEN := Lib.hid (show x.l.length ≤ 4096 from by have := hok.2.2.1; have := hs.big.2.1; omega)
    have HBI := Lib.hid hfo.2
    obtain ⟨w6, hw6⟩ : ∃ w6, w6 = w.drew := ⟨_, rfl⟩
    rw [← hw6] at H6 KP6 KN6 KB6 HTX6
    have HW6 := Lib.hid hw6
    clear hs hok hdr hop hn hrange hnr hat hbn kp kn kb hc h0 hw6 hfo hfp
    go_enter Tryz.func40, Tryz.ntmps40
    go_wp2_with (go_at_call 41; refine HT.out.mono ?_; rintro e w1 ⟨rfl, rfl⟩)
    refine wp_region_still_tail 6 (by kernel_rfl) (by kernel_rfl) ?_
    simp only [List.take_succ_cons, List.take_zero, List.drop_succ_cons, List.drop_zero]
    iterate 5 still_step
    refine wpStill_val rfl _ (x_look rfl rfl rfl hlk) ?_
    refine wpStill_nil ?_
    change wpList _ _ _ _ _ w.drew
    rw [← HW6.out]
    clear hlk g gp gn
    have gp6 := cell_blk KP6.out
    have gn6 := cell_blk KN6.out
    have HPB := Lib.hid (show f.pins + 1 ≤ c + 1 from by have := HPC.out; omega)
    have HU6 := Lib.hid (puse_any H6.out k hk (by have := HLEN.out; rw [List.length_map]; omega))
    go_wp2_with fail
    refine HU6.out.mono ?_
    rintro e w7 ⟨rfl, o7, ho7, ⟨mb7, n7, F7, vo7, V7, h7⟩, hx7⟩
    have k1 := hx7.box KP6.out (PoS.ne H6.out KP6.out (by decide) (by decide)) (by unfold poT devT; decide)
    have k2 := hx7.box KN6.out HB6.out (by unfold poT devT; decide)
    have k3 := hx7.box KB6.out (PoS.ne H6.out KB6.out (by decide) (by decide)) (by unfold poT devT; decide)
    have hd7 : Below w7.heap.size w7 w7.drew := below_of_drew (Below.refl _ _)
    have hlk7 : (Instr.lookup 67 (.map (some mb7)) (.int .i64 (k : Int)) false).run Tryz.prog { w7 with drawn := w7.drawn + 1 } = .ok (.pointer (some ⟨F7 k, 0, none⟩)) { w7 with drawn := w7.drawn + 1 } := (h7.below hd7).look1 k hk _ HF6.out
    obtain ⟨hfp7, hfr7, -, hpc7⟩ := h7.fr k _ HF6.out
    obtain ⟨a8, m8, c8, hfb7, hrb7, hBf7, hbl7⟩ := hfr7
    have gf7 := cell_blk hfb7
    have ff7 := free_blk hfb7
    unfold frC at gf7
    have g7 := cell_blk h7.pool
    unfold poolC at g7
    have gp7 := cell_blk k1
    have gn7 := cell_blk k2
    have i7 : ((f.pins : Nat) : Int) ≤ 1000000 := by have := h7.big.1; omega
    have j7 : (0 : Int) ≤ ((f.pins : Nat) : Int) := by omega
    have nb1 : ¬ bp = F7 k := fun e => by have h1 := k1; rw [e, hfb7] at h1; simp at h1
    have nb2 : ¬ bn = F7 k := fun e => by have h1 := k2; rw [e, hfb7] at h1; simp at h1
    have nb3 : ¬ p = F7 k := fun e => by have h1 := h7.pool; rw [e, hfb7] at h1; simp at h1
    have H7 := Lib.hid h7
    have HX7 := Lib.hid hx7
    have HO7 := Lib.hid ho7
    have KP7 := Lib.hid k1
    have KN7 := Lib.hid k2
    have KB7 := Lib.hid k3
    have HFB7 := Lib.hid hfb7
    have HRB7 := Lib.hid hrb7
    have HQ7 := Lib.hid (And.intro hfp7 (And.intro hpc7 (And.intro hBf7 hbl7)))
    clear h7 hx7 ho7 k1 k2 k3 hfb7 hrb7 hfp7 hpc7 hBf7 hbl7 hd7 gp6 gn6
    go_wp2_with fail
    refine wp_region_still_tail 12 (by kernel_rfl) (by kernel_rfl) ?_
    simp only [List.take_succ_cons, List.take_zero, List.drop_succ_cons, List.drop_zero]
    iterate 5 still_step
    refine wpStill_val rfl _ (x_look rfl rfl rfl hlk7) ?_
    repeat still_step
    refine wpStill_nil ?_
    change wpList _ _ _ _ _ w7.drew
    clear hlk7 g7
    go_wp2_with fail
    generalize hw8 : (World.setCell w7 ⟨F7 k, 2, none⟩ _).drew = w8
    have hc8 : Chg (fun j => j = F7 k) w7 w8 := by rw [← hw8]; exact Chg.drew (setCell_chg w7 _ _ _)
    have hfb8 : w8.heap[F7 k]? = some (.cells (frC (.slice a8 m8 c8) f.dirty (f.pins + 1)) 77 (0, 0)) := by rw [← hw8]; exact (blk_setCell HFB7.out 2 _).trans rfl
    have ht8 := Ty.of_chg hc8 HFB7.out hfb8
    have hfr8 := (H7.out.mono (Nat.le_refl _) H7.out.big.1).framed2 (f' := ⟨k, f.pins + 1, f.dirty, f.b⟩) HF6.out hc8 rfl ⟨a8, m8, c8, hfb8, HRB7.out.ty ht8 (by decide), HQ7.out.2.2.1, HQ7.out.2.2.2⟩ (HPB.out)
    have hd8 : Below w8.heap.size w8 w8.drew := below_of_drew (Below.refl _ _)
    have hlk8 : (Instr.lookup 67 (.map (some mb7)) (.int .i64 (k : Int)) false).run Tryz.prog { w8 with drawn := w8.drawn + 1 } = .ok (.pointer (some ⟨F7 k, 0, none⟩)) { w8 with drawn := w8.drawn + 1 } := (hfr8.1.below hd8).look1 k hk _ (if_pos rfl)
    have g8 := cell_blk hfr8.1.pool
    unfold poolC at g8
    have gf8 := cell_blk hfb8
    unfold frC at gf8
    have gp8 := cell_blk (hfr8.2.cells KP7.out (.inr (by unfold poT devT; decide)))
    have gn8 := cell_blk (hfr8.2.cells KN7.out (.inr (by unfold poT devT; decide)))
    have KB8 := Lib.hid (hfr8.2.cells KB7.out (.inr (by unfold poT devT; decide)))
    have HCL := Lib.hid (show ∀ W, W = w8.drew → Calls Tryz.prog 45 #[.slice a8 m8 c8] W fun e w' => ∃ v, e = .returned v ∧ OB w' W.heap.size v f.b ∧ Below W.heap.size W w' from fun W hW => by rw [hW]; exact cln_any a8 m8 c8 f.b w8.drew ((HRB7.out.ty ht8 (by decide)).below hd8).1 (by have h1 := HRB7.out.1.1; have h2 := HQ7.out.2.2.2; omega))
    have HF8 := Lib.hid hfr8
    have HD8 := Lib.hid hd8
    clear hw8 hc8 hfb8 ht8 hfr8 gf7 ff7 gp7 gn7 i7 j7 hd8
    go_wp2_with fail
    refine wp_region_still_tail 9 (by kernel_rfl) (by kernel_rfl) ?_
    simp only [List.take_succ_cons, List.take_zero, List.drop_succ_cons, List.drop_zero]
    iterate 5 still_step
    refine wpStill_val rfl _ (x_look rfl rfl rfl hlk8) ?_
    repeat still_step
    refine wpStill_nil ?_
    change wpList _ _ _ _ _ w8.drew
    clear hlk8 g8 gf8 gp8 gn8
    go_wp2_with fail
    refine (HCL.out _ rfl).mono ?_
    rintro e w9 ⟨v9, rfl, ho9, hb9⟩
    have hb89 := below_then HD8.out hb9 HD8.out.size
    have kb9 := (hb89.block _ (lt_of_block KB8.out)).trans KB8.out
    have gb9 := cell_blk kb9
    have fb9 := free_blk kb9
    have HFI := Lib.hid (show PnE B o (c + 1) p d np N (x.pinP N np (k : Int)) (x.pinE N np (k : Int)) (x.pinB N np (k : Int)) bo w (.returned (.tuple #[])) (w9.setCell ⟨bo, 0, none⟩ v9) from by
      refine .inr ⟨HPE.out.1, rfl, w9, v9, ?_, rfl, ?_⟩
      · refine pin_end (o6 := o) (.inl rfl) HTX6.out HX7.out HO7.out (HF8.out.2.x.trans (Ty.of_below hb89).x (fun _ _ h => h)) ⟨mb7, n7, F7, vo7, V7, HF8.out.1.below hb89⟩ ?_ rfl HPE.out.2.1 HOKP.out
        rfl
      · rw [HPE.out.2.2]
        exact ho9.mono (by have h1 := HTX6.out.size; have h2 := HX7.out.size; have h3 := HF8.out.2.size; have h4 := HD8.out.size; omega))
    obtain ⟨a9, c9, hv9, -⟩ := ho9.form
    subst hv9
    clear ho9 hb9 hb89 kb9
    go_wp2
    go_end0
    exact HFI.out
end Go.Proofs.YtocepcibcapfbaaGreat
