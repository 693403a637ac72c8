/- The device: Write, Fuse. -/
import Derived.Test.YtocepcibcapfbaaGreatJ15
import Derived.Test.YtocepcibcapfbaaGreatJ19
namespace Go.Proofs.YtocepcibcapfbaaGreat
set_option linter.unusedVariables false
set_option linter.unusedSimpArgs false
set_option linter.unusedSectionVars false
open Go.RowKit
variable [Inhabited AvT]

/-- A slice of bytes in a block of bytes. -/
def RB (w : World) (a : Option Addr) (n : Nat) (b : List UInt8) : Prop := Rd w a n b ∧ (0 < n → ∀ p, a = some p → tagA w p.block = some (some 5) ∧ ¬ av p.block)
theorem RB.ty {C : Nat} {T : Option TypeId → Prop} {w w' : World} {a : Option Addr} {n : Nat} {b : List UInt8} (h : RB w a n b) (hw : Ty C T w w') (hT : ¬ T (some 5)) : RB w' a n b :=
  ⟨h.1.ty hw (fun h0 p e => .inr ⟨_, (h.2 h0 p e).1, hT⟩), fun h0 p e => ⟨by rw [hw.tag _ (tagA_lt (h.2 h0 p e).1)]; exact (h.2 h0 p e).1, (h.2 h0 p e).2⟩⟩
theorem RB.below {w w' : World} {a : Option Addr} {n : Nat} {b : List UInt8} (h : RB w a n b) (hb : Below w.heap.size w w') : RB w' a n b := h.ty (Ty.of_below (B := 0) (T := fun _ => False) hb) id
theorem OB.rb {w : World} {B n cp : Nat} {a : Option Addr} {l : List UInt8} (h : OB w B (.slice a n cp) l) (hav : ∀ k, av k → k < B) : RB w a n l := by
  obtain ⟨a', c', e, hr, -, ha, -⟩ := h.form
  cases e
  exact ⟨hr, fun _ p e => ⟨(OV.tag (t := 5) (s := 1) (n := l.length) (l := bvs l) h p.block (ha p e).2.2).1, fun hk => by have h1 := hav _ hk; have h2 := (ha p e).1; omega⟩⟩
theorem wr1_en (args : Array Value) (w : World) : (callFunc 85 args).run Tryz.prog w = .ok (.enter 85 args) w :=
  enter_of Tryz.func85 (by kernel_rfl) (by kernel_rfl) args w
theorem wr2_en (args : Array Value) (w : World) : (callFunc 87 args).run Tryz.prog w = .ok (.enter 87 args) w :=
  enter_of Tryz.func87 (by kernel_rfl) (by kernel_rfl) args w
def Told (c : Nat) (R : World → World → Prop) (w : World) (e : Ending) (w' : World) : Prop := (c = 1 ∧ e = .returned (.int .i64 7) ∧ w = w') ∨ (c ≠ 1 ∧ e = .returned (.int .i64 (if c = 0 then 0 else 7)) ∧ R w w')
set_option maxRecDepth 100000 in
theorem told_any (c : Nat) (hc : c < 3) (fd : FuncId) (caps : Array Value) (R : World → World → Prop) (w : World) (hen : ∀ args w, (callFunc fd args).run Tryz.prog w = .ok (.enter fd args) w)
    (hdo : Calls Tryz.prog fd caps w fun e w' => e = .returned (.tuple #[]) ∧ R w w') :
    Calls Tryz.prog 88 #[.int .u8 (c : Int), .func (.func fd) #[] caps] w (Told c R w) := by
  have HEN := Lib.hid hen
  have HDO := Lib.hid hdo
  clear hen hdo
  have h : c = 0 ∨ c = 1 ∨ c = 2 := by omega
  rcases h with rfl | rfl | rfl
  · go_enter Tryz.func88, Tryz.ntmps88
    go_wp2_with fail
    rw [HEN.out, Oper.upon_enter]
    refine HDO.out.mono ?_
    rintro e w' ⟨rfl, hR⟩
    have HR := Lib.hid hR
    clear hR
    go_wp2
    go_ret
    exact .inr ⟨by omega, rfl, HR.out⟩
  · go_enter Tryz.func88, Tryz.ntmps88
    go_wp2
    go_ret
    exact .inl ⟨rfl, rfl, rfl⟩
  · go_enter Tryz.func88, Tryz.ntmps88
    go_wp2_with fail
    rw [HEN.out, Oper.upon_enter]
    refine HDO.out.mono ?_
    rintro e w' ⟨rfl, hR⟩
    have HR := Lib.hid hR
    clear hR
    go_wp2
    go_ret
    exact .inr ⟨by omega, rfl, HR.out⟩
/-- What a write that is done leaves. -/
def laidD (x : P.Dv) (n : Nat) (b : List UInt8) : P.Dv := { x with img := P.setP x.img n b, log := x.log ++ [(n, b)] }
def Laid (B d np : Nat) (x : P.Dv) (n : Nat) (b : List UInt8) (w w' : World) : Prop := DvIs B w' d np (laidD x n b) ∧ Ty B devT w w'
theorem DvIs.logs {B : Nat} {w : World} {d np : Nat} {x : P.Dv} (h : DvIs B w d np x) : x.log.length ≤ x.ops := by
  obtain ⟨vl, gn, cn, vw, ao, no, co, fz, nw, lw, Cn, h1, h2, h3, h4, h5, h6, h7, h8, h9, h10, -⟩ := h
  have := h9.2.1.2
  omega
theorem write1_any (pd pp pb : Nat) (B d np : Nat) (x : P.Dv) (n : Nat) (a : Option Addr) (c : Nat) (b : List UInt8) (w : World) (h : DvIs B w d np x) (hn : n < np) (hr : Rd w a 256 b) (hlog : x.log.length < x.ops)
    (h1 : w.cell? ⟨pd, 0, none⟩ = some (.pointer (some ⟨d, 0, none⟩))) (h2 : w.cell? ⟨pp, 0, none⟩ = some (.int .i64 (n : Int))) (h3 : w.cell? ⟨pb, 0, none⟩ = some (.slice a 256 c)) :
    Calls Tryz.prog 85 #[.pointer (some ⟨pd, 0, none⟩), .pointer (some ⟨pp, 0, none⟩), .pointer (some ⟨pb, 0, none⟩)] w fun e w' => e = .returned (.tuple #[]) ∧ Laid B d np x n b w w' := by
  have HL := Lib.hid (lay_any B d np x n a c b w h (by have := h.tag.2; have := h.lt; omega) hn hr hlog)
  clear h hr hlog
  go_enter Tryz.func85, Tryz.ntmps85
  go_wp2_with (go_at_call 86; refine HL.out.mono ?_; rintro e w1 ⟨rfl, hA, hT⟩; have HA := Lib.hid hA; have HT := Lib.hid hT; clear hA hT)
  go_end0
  exact ⟨rfl, HA.out, HT.out⟩
theorem write2_any (pl pd pp pb : Nat) (k : Nat) (hk : k < 3) (B d np : Nat) (x : P.Dv) (n : Nat) (a : Option Addr) (c : Nat) (b : List UInt8) (w : World) (h : DvIs B w d np x) (hn : n < np) (hr : Rd w a 256 b) (hlog : x.log.length < x.ops)
    (h0 : w.cell? ⟨pl, 0, none⟩ = some (.func (.func 85) #[] #[.pointer (some ⟨pd, 0, none⟩), .pointer (some ⟨pp, 0, none⟩), .pointer (some ⟨pb, 0, none⟩)]))
    (h1 : w.cell? ⟨pd, 0, none⟩ = some (.pointer (some ⟨d, 0, none⟩))) (h2 : w.cell? ⟨pp, 0, none⟩ = some (.int .i64 (n : Int))) (h3 : w.cell? ⟨pb, 0, none⟩ = some (.slice a 256 c)) :
    Calls Tryz.prog 87 #[.int .u8 (k : Int), .pointer (some ⟨pl, 0, none⟩)] w (Told k (Laid B d np x n b) w) := by
  have HL := Lib.hid (told_any k hk _ _ (Laid B d np x n b) w wr1_en (write1_any pd pp pb B d np x n a c b w h hn hr hlog h1 h2 h3))
  have hk0 : (0 : Int) ≤ (k : Int) := by omega
  clear h hr hlog h1 h2 h3
  go_enter Tryz.func87, Tryz.ntmps87
  go_wp2_with fail
  refine HL.out.mono ?_
  rintro e w1 hT
  have HT := Lib.hid hT
  obtain ⟨q, rfl⟩ : ∃ q, e = .returned (.int .i64 q) := by rcases hT with ⟨-, rfl, -⟩ | ⟨-, rfl, -⟩ <;> exact ⟨_, rfl⟩
  clear hT
  go_wp2
  go_ret
  exact HT.out
theorem wrE_dead {x : P.Dv} (h : x.dead = true) (n : Nat) (b : List UInt8) : x.wrE = 7 ∧ x.wrD n b = x := by
  unfold P.Dv.wrE P.Dv.wrD
  rw [if_pos (.inl h), if_pos h]
  exact ⟨rfl, rfl⟩
theorem op_img (x : P.Dv) : x.op.img = x.img ∧ x.op.log = x.log ∧ x.op.ops = x.ops + 1 := by unfold P.Dv.op; split <;> exact ⟨rfl, rfl, rfl⟩
theorem wrE_die {x : P.Dv} (h : x.dead = false) (hf : x.fuse = 0) (n : Nat) (b : List UInt8) : x.wrE = 7 ∧ x.wrD n b = laidD x.op n b := by
  have ho : x.out = 3 := by unfold P.Dv.out; rw [if_pos hf]
  have hi := op_img x
  unfold P.Dv.wrE P.Dv.wrD
  rw [if_pos (.inr (by omega)), if_neg (by rw [h]; simp), if_neg (by omega)]
  unfold laidD
  rw [hi.1, hi.2.1]
  exact ⟨rfl, rfl⟩
theorem wrE_do {x : P.Dv} (h : x.dead = false) (hf : x.fuse ≠ 0) (n : Nat) (b : List UInt8) : x.out < 3 ∧ x.wrE = (if x.out = 0 then 0 else 7) ∧ x.wrD n b = (if x.out = 1 then x.op else laidD x.op n b) := by
  have ho : x.out < 3 := by unfold P.Dv.out; rw [if_neg hf]; exact Nat.mod_lt _ (by omega)
  have hi := op_img x
  unfold P.Dv.wrE P.Dv.wrD
  rw [if_neg (show ¬ x.dead = true by rw [h]; simp)]
  refine ⟨ho, ?_, ?_⟩
  · by_cases h1 : x.out = 0
    · rw [if_pos h1, if_neg (by rw [h]; simp; omega)]
    · rw [if_neg h1, if_pos (.inr h1)]
  · unfold laidD
    rw [hi.1, hi.2.1]
theorem opwrite (ws : World) (pl pd pp pb : Nat) (n : Nat) (B d np : Nat) (x : P.Dv) (a : Option Addr) (c : Nat) (b : List UInt8) (w : World) (h : DvIs B w d np x) (hn : n < np) (hop : x.ops < 1000000) (hbs : Below ws.heap.size ws w) (hr : RB w a 256 b)
    (h0 : w.heap[pl]? = some (.cells #[.func (.func 85) #[] #[.pointer (some ⟨pd, 0, none⟩), .pointer (some ⟨pp, 0, none⟩), .pointer (some ⟨pb, 0, none⟩)]] 1 (0, 0)))
    (h1 : w.heap[pd]? = some (.cells #[.pointer (some ⟨d, 0, none⟩)] 25 (0, 0))) (h2 : w.heap[pp]? = some (.cells #[.int .i64 (n : Int)] 3 (0, 0))) (h3 : w.heap[pb]? = some (.cells #[.slice a 256 c] 38 (0, 0))) :
    Calls Tryz.prog 70 #[.pointer (some ⟨d, 0, none⟩), .func (.func 87) #[] #[.pointer (some ⟨pl, 0, none⟩)], .func (.func 85) #[] #[.pointer (some ⟨pd, 0, none⟩), .pointer (some ⟨pp, 0, none⟩), .pointer (some ⟨pb, 0, none⟩)]] w fun e w' =>
      e = .returned (.int .i64 x.wrE) ∧ DvIs B w' d np (x.wrD n b) ∧ Ty B devT ws w' := by
  have hlg := h.logs
  have hi := op_img x
  have hcl : ∀ wx, Ty B devT w wx → DvIs B wx d np x.op → wx.cell? ⟨pl, 0, none⟩ = some (.func (.func 85) #[] #[.pointer (some ⟨pd, 0, none⟩), .pointer (some ⟨pp, 0, none⟩), .pointer (some ⟨pb, 0, none⟩)]) ∧ wx.cell? ⟨pd, 0, none⟩ = some (.pointer (some ⟨d, 0, none⟩)) ∧ wx.cell? ⟨pp, 0, none⟩ = some (.int .i64 (n : Int)) ∧ wx.cell? ⟨pb, 0, none⟩ = some (.slice a 256 c) ∧ Rd wx a 256 b := fun wx ht _ =>
    ⟨cell_blk (ht.cells h0 (.inr (by unfold devT; decide))) 0, cell_blk (ht.cells h1 (.inr (by unfold devT; decide))) 0, cell_blk (ht.cells h2 (.inr (by unfold devT; decide))) 0, cell_blk (ht.cells h3 (.inr (by unfold devT; decide))) 0, (hr.ty ht (by unfold devT; decide)).1⟩
  rcases hdead : x.dead with _ | _
  rotate_left
  · rw [(wrE_dead hdead n b).1, (wrE_dead hdead n b).2]
    refine (opf_dead B d np x _ _ _ w h hdead ⟨_, _, rfl⟩).mono ?_
    rintro e w' ⟨rfl, hb⟩
    exact ⟨rfl, h.below hb, (Ty.of_below hbs).trans (Ty.of_below hb)⟩
  by_cases hf : x.fuse = 0
  · rw [(wrE_die hdead hf n b).1, (wrE_die hdead hf n b).2]
    refine (opf_die B d np x _ _ _ _ (Laid B d np x.op n b) w h devT (by unfold devT; decide) hdead hf hop wr1_en (fun wx ht hD => ?_)).mono ?_
    · obtain ⟨c0, c1, c2, c3, c4⟩ := hcl wx ht hD
      exact (write1_any pd pp pb B d np x.op n a c b wx hD hn c4 (by rw [hi.2.1, hi.2.2]; omega) c1 c2 c3).mono (fun e w' hh => ⟨⟨hh.2, hh.2.2.mono (Nat.zero_le _) (fun _ h => h)⟩, hh.1⟩)
    · rintro e w' ⟨rfl, wx, ht, hD, -, hL⟩
      exact ⟨rfl, hL.1, ((Ty.of_below hbs).trans ht).trans hL.2⟩
  · obtain ⟨o1, o2, o3⟩ := wrE_do hdead hf n b
    rw [o2, o3]
    refine (opf_any B d np x _ _ _ (fun wx => Told x.out (Laid B d np x.op n b) wx) w h devT (by unfold devT; decide) hdead hf hop ⟨_, _, rfl⟩ wr2_en (fun wx ht hs hD => ?_)).mono ?_
    · obtain ⟨c0, c1, c2, c3, c4⟩ := hcl wx ht hD
      refine (write2_any pl pd pp pb x.out o1 B d np x.op n a c b wx hD hn c4 (by rw [hi.2.1, hi.2.2]; omega) c0 c1 c2 c3).mono ?_
      intro e w1 hR
      refine ⟨hR, ?_, ?_⟩
      · rcases hR with ⟨-, rfl, -⟩ | ⟨-, rfl, -⟩
        · exact ⟨_, rfl⟩
        · exact ⟨_, rfl⟩
      · rcases hR with ⟨-, -, rfl⟩ | ⟨-, -, hL⟩
        · exact Ty.refl _ _ _
        · exact hL.2.mono (Nat.zero_le _) (fun _ h => h)
    · rintro e w' ⟨wx, w1, k, ht, hD, hR, rfl, hte, hsz⟩
      have hnd : NoDev (fun t => t = some 26) := ⟨by decide, by decide, by decide, by decide⟩
      rcases hR with ⟨h1c, e1, rfl⟩ | ⟨h1c, e1, hL⟩
      · cases e1
        rw [if_neg (by omega), if_pos h1c]
        exact ⟨rfl, hD.ty hte hnd, ((Ty.of_below hbs).trans ht).new (hte.mono hbs.size (fun _ h => h))⟩
      · cases e1
        rw [if_neg h1c]
        exact ⟨rfl, hL.1.ty hte hnd, (((Ty.of_below hbs).trans ht).trans hL.2).new (hte.mono hbs.size (fun _ h => h))⟩
/-- How Write ends. -/
def WrF (B d np : Nat) (x : P.Dv) (n : Int) (b : List UInt8) (w : World) (e : Ending) (w' : World) : Prop :=
  (¬ ((0 ≤ n ∧ n < (np : Int)) ∧ b.length = 256) ∧ e = .returned (.int .i64 1) ∧ Below w.heap.size w w') ∨
  (((0 ≤ n ∧ n < (np : Int)) ∧ b.length = 256) ∧ DvIs B w' d np (x.wrD n.toNat b) ∧ Ty B devT w w' ∧ e = .returned (.int .i64 x.wrE))
set_option maxRecDepth 100000 in
set_option maxHeartbeats 3200000 in
theorem dwriteF (B d np : Nat) (x : P.Dv) (n : Int) (a : Option Addr) (m c : Nat) (bb : List UInt8) (w : World) (h : DvIs B w d np x) (hr : RB w a m bb) (hop : x.ops < 1000000) :
    Calls Tryz.prog 78 #[.pointer (some ⟨d, 0, none⟩), .int .i64 n, .slice a m c] w (WrF B d np x n bb w) := by
  have hmf : ∀ (fn : Fn) (first cap : Array Value) (w : World), (Instr.makeFunc fn first cap).run Tryz.prog w = .ok (.func fn first cap) w := fun _ _ _ _ => rfl
  have HM := Lib.hid (fun w (h : DvIs B w d np x) => dfmade_any B d np x w h)
  obtain ⟨b, hb⟩ : ∃ b, b = decide (0 ≤ n ∧ n < (np : Int)) := ⟨_, rfl⟩
  have HT := Lib.hid (fun w (h : DvIs B w d np x) => dfthere_any B d np x n b w h hb.symm)
  have HBB := Lib.hid hb
  obtain ⟨w0, hw0⟩ : ∃ w0, w0 = ((w.alloc (.cells #[.pointer (some ⟨d, 0, none⟩)] 25)).alloc (.cells #[.int .i64 n] 3)).alloc (.cells #[.slice a m c] 38) := ⟨_, rfl⟩
  have hb0 : Below w.heap.size w w0 := by rw [hw0]; exact ((((Below.refl _ w).alloc (Nat.le_refl _) _).alloc (by simp) _).alloc (by simp; omega) _)
  have k0 : w0.heap[w.heap.size]? = some (.cells #[.pointer (some ⟨d, 0, none⟩)] 25 (0, 0)) := by rw [hw0]; exact alloc_old (alloc_old (alloc_new _ _ _ rfl) _) _
  have k1 : w0.heap[w.heap.size + 1]? = some (.cells #[.int .i64 n] 3 (0, 0)) := by rw [hw0]; exact alloc_old (alloc_new _ _ _ (by simp)) _
  have k2 : w0.heap[w.heap.size + 2]? = some (.cells #[.slice a m c] 38 (0, 0)) := by rw [hw0]; exact alloc_new _ _ _ (by simp)
  have HZ := Lib.hid (show w0.heap.size = w.heap.size + 3 by rw [hw0]; simp)
  have H0 := Lib.hid (h.below hb0)
  have HB0 := Lib.hid hb0
  have HR := Lib.hid (hr.below hb0)
  have K0 := Lib.hid k0
  have K1 := Lib.hid k1
  have K2 := Lib.hid k2
  have HOP := Lib.hid hop
  have HML := Lib.hid hr.1.1
  have g0 := cell_blk k0
  have g1 := cell_blk k1
  have g2 := cell_blk k2
  clear h hb0 k0 k1 k2 hop hb hr
  go_enter Tryz.func78, Tryz.ntmps78
  go_wp2_with fail
  rw [← hw0]
  clear hw0
  refine (HM.out _ H0.out).mono ?_
  rintro e w1 ⟨rfl, rfl⟩
  go_wp2_with fail
  refine (HT.out _ H0.out).mono ?_
  rintro e w1 ⟨rfl, rfl⟩
  rcases b with _ | _
  · have HF := Lib.hid (show WrF B d np x n bb w (.returned (.int .i64 1)) w0 from .inl ⟨fun h => of_decide_eq_false HBB.out.symm h.1, rfl, HB0.out⟩)
    go_wp2
    go_ret
    exact HF.out
  have hr := of_decide_eq_true HBB.out.symm
  obtain ⟨k, rfl⟩ : ∃ m : Nat, n = (m : Int) := ⟨n.toNat, by omega⟩
  have HRG := Lib.hid hr
  clear hr
  by_cases h256 : m = 256
  rotate_left
  · have z1 : ((m : Int) != 256) = true := by simp; omega
    have HF := Lib.hid (show WrF B d np x (k : Int) bb w (.returned (.int .i64 1)) w0 from .inl ⟨fun h => by have := HML.out; omega, rfl, HB0.out⟩)
    go_wp2
    go_ret
    exact HF.out
  subst h256
  obtain ⟨FV, hFV⟩ : ∃ FV, FV = Value.func (.func 85) #[] #[.pointer (some ⟨w.heap.size, 0, none⟩), .pointer (some ⟨w.heap.size + 1, 0, none⟩), .pointer (some ⟨w.heap.size + 2, 0, none⟩)] := ⟨_, rfl⟩
  obtain ⟨w2, hw2⟩ : ∃ w2, w2 = (w0.alloc (.cells #[.nilFunc] 1)).setCell ⟨w0.heap.size, 0, none⟩ FV := ⟨_, rfl⟩
  have q0 : (w0.alloc (.cells #[.nilFunc] 1)).heap[w0.heap.size]? = some (.cells #[.nilFunc] 1 (0, 0)) := alloc_new _ _ _ rfl
  have hb2 : Below w0.heap.size w0 w2 := by rw [hw2]; exact below_chg ((Below.refl _ w0).alloc (Nat.le_refl _) _) (setCell_chg _ _ _ _) (by simp) (fun i e => by omega)
  have k3 : w2.heap[w0.heap.size]? = some (.cells #[FV] 1 (0, 0)) := by rw [hw2, blk_setCell q0]; rfl
  rw [hFV] at k3
  have e0 := cell_blk ((hb2.block _ (lt_of_block K0.out)).trans K0.out)
  have e3 := cell_blk k3
  have K3 := Lib.hid k3
  have HB2 := Lib.hid hb2
  have HW2 := Lib.hid hw2
  have HFV := Lib.hid hFV
  have HQ0 := Lib.hid q0
  clear hw2 q0 hFV k3 hb2
  go_wp2_with ((refine wpList_skp rfl (x_store1 rfl ⟨w0.heap.size, 0, none⟩ rfl FV .nilFunc (by exact HFV.out.symm) (by kernel_rfl) (by rw [HFV.out]; rfl) (by rw [HFV.out]; rfl) (by rw [cell_blk HQ0.out]; rfl) (free_blk HQ0.out 0)) ?_; rw [← HW2.out]))
  have hb2 := HB2.out
  have hb02 := below_then HB0.out hb2 HB0.out.size
  have k0' := (hb2.block _ (lt_of_block K0.out)).trans K0.out
  have k1' := (hb2.block _ (lt_of_block K1.out)).trans K1.out
  have k2' := (hb2.block _ (lt_of_block K2.out)).trans K2.out
  have H2 := H0.out.below hb2
  have HR2 := HR.out.below hb2
  refine (opwrite w w0.heap.size w.heap.size (w.heap.size + 1) (w.heap.size + 2) k B d np x a c bb w2 H2 (by have := HRG.out; omega) HOP.out hb02 HR2 K3.out k0' k1' k2').mono ?_
  rintro e w3 ⟨rfl, hD, hT⟩
  have HE := Lib.hid (show WrF B d np x (k : Int) bb w (.returned (.int .i64 x.wrE)) w3 from .inr ⟨⟨HRG.out, HML.out⟩, hD, hT, rfl⟩)
  obtain ⟨E, hE⟩ : ∃ E, E = x.wrE := ⟨_, rfl⟩
  rw [← hE] at HE ⊢
  clear hD hT hE H2 HR2 k0' k1' k2' hb2 hb02
  go_wp2
  go_ret
  exact HE.out
end Go.Proofs.YtocepcibcapfbaaGreat
