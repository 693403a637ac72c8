/- The pool: Dirty, Pinned. -/
import Derived.Test.YtocepcibcapfbaaGreatJ39
namespace Go.Proofs.YtocepcibcapfbaaGreat
set_option linter.unusedVariables false
set_option linter.unusedSimpArgs false
set_option linter.unusedSectionVars false
open Go.RowKit Go.Maps
variable [Inhabited AvT]
variable {B o c : Nat} {w : World} {p d np N : Nat} {x : P.Po}

def ivOf : Value → Int
  | .int _ q => q
  | _ => 0
/-- Is a page clean? -/
def clnP (x : P.Po) (k : Int) : Bool := !((P.at? x.l k.toNat).any (·.dirty))
theorem keep_dirt (np : Nat) (x : P.Po) : keep (clnP x) ((x.res np).map Int.ofNat) = (x.dirt np).map Int.ofNat := by
  unfold keep P.Po.res P.Po.dirt
  rw [List.filter_map, List.filter_filter]
  congr 1
  apply List.filter_congr
  intro m _
  simp only [Function.comp, clnP]
  show (!!((P.at? x.l ((m : Nat) : Int).toNat).any (·.dirty)) && (P.at? x.l m).isSome) = _
  rw [Int.toNat_natCast]
  rcases P.at? x.l m with _ | f <;> simp
theorem dirty1_prd {xd : P.Dv} {M : Nat → Option P.Fr} {od : List Nat} {mb n : Nat} {F : Nat → Nat} {vo : Value} {V : Int → Option Value} (h : PoS B o c w p d np N xd M od mb n F vo V) (b : Nat) (hb : w.cell? ⟨b, 0, none⟩ = some (.pointer (some ⟨p, 0, none⟩))) (l : List Int) (hl : ∀ x ∈ l, ∃ k f, x = ((k : Nat) : Int) ∧ M k = some f) :
    Prd 68 #[.pointer (some ⟨b, 0, none⟩)] l (fun x => !((M x.toNat).any (·.dirty))) w := by
  intro x hx
  obtain ⟨k, f, rfl, hf⟩ := hl x hx
  obtain ⟨hfp, ⟨a, m, cp, hfb, -⟩, hk, hpc⟩ := h.fr k f hf
  have hlk := h.look1 k hk f hf
  have g := cell_blk h.pool
  unfold poolC at g
  have gf := cell_blk hfb
  unfold frC at gf
  have HQ := Lib.hid (show (!((M ((k : Int)).toNat).any (·.dirty))) = !f.dirty by
    rw [Int.toNat_natCast, hf]
    rfl)
  show Calls Tryz.prog 68 #[.int .i64 (k : Int), .pointer (some ⟨b, 0, none⟩)] w fun e w' => e = .returned (.bool (!((M ((k : Int)).toNat).any (·.dirty)))) ∧ w = w'
  rw [HQ.out]
  clear h hx hf hfb hpc hl HQ
  go_enter Tryz.func68, Tryz.ntmps68
  go_wp2
  go_ret
  exact ⟨rfl, rfl⟩
theorem dirty1_en (args : Array Value) (w : World) : (callFunc 68 args).run Tryz.prog w = .ok (.enter 68 args) w :=
  enter_of Tryz.func68 (by kernel_rfl) (by kernel_rfl) args w
theorem res_le (np : Nat) (x : P.Po) : (x.res np).length ≤ np := by
  unfold P.Po.res
  exact Nat.le_trans (List.length_filter_le _ _) (by simp)
theorem pdirty_any (h : PoIs B o c w p d np N x) : Calls Tryz.prog 30 #[.pointer (some ⟨p, 0, none⟩)] w (RsE (x.dirt np) w) := by
  have hmf : ∀ (fn : Fn) (first cap : Array Value) (w : World), (Instr.makeFunc fn first cap).run Tryz.prog w = .ok (.func fn first cap) w := fun _ _ _ _ => rfl
  obtain ⟨wa, hwa⟩ : ∃ wa, wa = w.alloc (.cells #[.pointer (some ⟨p, 0, none⟩)] 32) := ⟨_, rfl⟩
  have hba : Below w.heap.size w wa := by rw [hwa]; exact (Below.refl _ w).alloc (Nat.le_refl _) _
  have kb : wa.heap[w.heap.size]? = some (.cells #[.pointer (some ⟨p, 0, none⟩)] 32 (0, 0)) := by rw [hwa]; exact alloc_new _ _ _ rfl
  have HR := Lib.hid (president_any (h.below hba))
  have HD := Lib.hid (show ∀ (w1 : World) (a : Option Addr) (cp : Nat), Below wa.heap.size wa w1 → OV w1 wa.heap.size 3 1 (.slice a (x.res np).length cp) (x.res np).length (ivs ((x.res np).map Int.ofNat)) → Calls Tryz.prog 67 #[.slice a (x.res np).length cp, .func (.func 68) #[] #[.pointer (some ⟨w.heap.size, 0, none⟩)]] w1 (RsE (x.dirt np) w) from fun w1 a cp hb1 ho1 => by
    have hnp : np ≤ 4096 := by obtain ⟨⟨mb, n, F, vo, V, hs⟩, -⟩ := h; exact hs.big.2.2.2.2.2
    have hd := delf_any 68 #[.pointer (some ⟨w.heap.size, 0, none⟩)] dirty1_en ((x.res np).map Int.ofNat) (clnP x) wa.heap.size (x.res np).length cp a w1 ho1 (by have := res_le np x; omega) (fun w' hw => by
      have hb' : Below wa.heap.size wa w' := below_chg hb1 hw hb1.size (fun i hi => (OV.tag ho1 i hi).2)
      obtain ⟨⟨mb, n, F, vo, V, hs⟩, -⟩ := (h.below hba).below hb'
      exact dirty1_prd hs w.heap.size (box_at kb hb') _ (fun y hy => by
        obtain ⟨k, hk, rfl⟩ := List.mem_map.1 hy
        obtain ⟨f, hf⟩ := Option.isSome_iff_exists.1 ((res_mem np x k).1 hk).2
        exact ⟨k, f, rfl, hf⟩))
    rw [keep_dirt, List.length_map] at hd
    refine hd.mono ?_
    rintro e w' ⟨rfl, ho, hc⟩
    exact ⟨_, rfl, ho.mono hba.size, (below_then hba (below_chg hb1 hc hb1.size (fun i hi => (OV.tag ho1 i hi).2)) hba.size)⟩)
  clear h hba kb
  go_enter Tryz.func30, Tryz.ntmps30
  go_wp2_with fail
  rw [← hwa]
  clear hwa
  refine HR.out.mono ?_
  rintro e w1 ⟨v, rfl, ho, hb⟩
  obtain ⟨a, cp, hv, -⟩ := ho.form
  subst hv
  have HD1 := Lib.hid (HD.out w1 a cp hb ho)
  clear ho hb
  go_wp2_with fail
  refine HD1.out.mono ?_
  rintro e w2 hR
  have HRR := Lib.hid hR
  obtain ⟨v, rfl, -⟩ := hR
  go_wp2
  go_ret
  exact HRR.out
/-- Has a page pins? -/
def pnd (x : P.Po) (k : Nat) : Bool := (P.at? x.l k).any fun f => decide (0 < f.pins)
theorem pinned_res {x : P.Po} (h : x.ok N np) : ((x.res np).filter (pnd x)).length = x.pinned := by
  have hp : (x.res np).Perm (x.l.map (·.pg)) := by
    refine (List.perm_ext_iff_of_nodup (List.Pairwise.sublist List.filter_sublist List.nodup_range) h.1).2 (fun k => ?_)
    show k ∈ x.res np ↔ _
    rw [res_mem, P.at_isSome]
    constructor
    · exact fun hh => hh.2
    · intro hh
      obtain ⟨f, hf, rfl⟩ := List.mem_map.1 hh
      exact ⟨(h.2.1 f hf).1, hh⟩
  rw [(hp.filter (pnd x)).length_eq, List.filter_map, List.length_map]
  unfold P.Po.pinned
  congr 1
  apply List.filter_congr
  intro f hf
  simp only [Function.comp, pnd]
  rw [P.at_mem h.1 hf]
  rfl
set_option maxRecDepth 100000 in
set_option maxHeartbeats 1600000 in
theorem ppinned_any (h : PoIs B o c w p d np N x) : Calls Tryz.prog 32 #[.pointer (some ⟨p, 0, none⟩)] w fun e w' => e = .returned (.int .i64 (x.pinned : Int)) ∧ Below w.heap.size w w' := by
  have HR := Lib.hid (president_any h)
  have HP := Lib.hid (pinned_res h.2)
  have H := Lib.hid h
  obtain ⟨L, hL⟩ : ∃ L, L = x.res np := ⟨_, rfl⟩
  rw [← hL] at HR HP
  have HLM := Lib.hid (show ∀ k ∈ L, ∃ f, P.at? x.l k = some f from fun k hk => by rw [hL] at hk; exact Option.isSome_iff_exists.1 ((res_mem np x k).1 hk).2)
  have hll : L.length ≤ 4096 := by
    have := res_le np x
    obtain ⟨⟨mb, n, F, vo, V, hs⟩, -⟩ := h
    have := hs.big.2.2.2.2
    rw [hL]
    omega
  clear h hL
  obtain ⟨LL, hLL⟩ : ∃ LL, LL = L.length := ⟨_, rfl⟩
  have HLL := Lib.hid hLL
  rw [← hLL] at hll
  go_enter Tryz.func32, Tryz.ntmps32
  go_wp2_with fail
  refine HR.out.mono ?_
  rintro e w1 ⟨v, rfl, ho, hb⟩
  obtain ⟨a, cp, hv, hri0, -⟩ := ho.form
  rw [← hLL] at hv hri0
  clear hLL
  have hri : RI w1 a LL (L.map Int.ofNat) := hri0
  subst hv
  have HRI := Lib.hid hri
  have HB := Lib.hid hb
  obtain ⟨⟨mb, n, F, vo, V, hs⟩, -⟩ := H.out.below hb
  have HS := Lib.hid hs
  have g := cell_blk hs.pool
  unfold poolC at g
  clear hri hri0 ho hb hs
  go_wp2
  go_loopw [3, 9] (fun s3 s9 wr => ∃ k : Nat, k ≤ LL ∧ s9 = .int .i64 k ∧ s3 = .int .i64 (((L.take k).filter (pnd x)).length : Int) ∧ SameW w1 wr) (fun _ s9 _ => LL - (ivOf s9).toNat)
  case atStart => exact ⟨0, by omega, rfl, rfl, rfl⟩
  case round =>
    obtain ⟨k, hk, rfl, rfl, HW⟩ := hrel
    obtain rfl : w1 = wr := HW
    have hcl : ((L.take k).filter (pnd x)).length ≤ k := Nat.le_trans (List.length_filter_le _ _) (List.length_take_le _ _)
    by_cases hlt : k < LL
    · have hkl : k < L.length := by have := HLL.out; omega
      obtain ⟨q, hq, hc⟩ := HRI.out.at k (by simpa using hkl)
      subst hq
      rw [List.getElem_map] at hc
      obtain ⟨f, hf⟩ := HLM.out L[k] (List.getElem_mem _)
      have htk : (L.take (k + 1)).filter (pnd x) = (L.take k).filter (pnd x) ++ (if 0 < f.pins then [L[k]] else []) := by
        rw [List.take_succ_eq_append_getElem hkl, List.filter_append]
        congr 1
        have hpn : pnd x L[k] = decide (0 < f.pins) := by unfold pnd; rw [hf]; rfl
        by_cases h0 : 0 < f.pins
        · rw [if_pos h0]
          simp [hpn, h0]
        · rw [if_neg h0]
          simp [hpn, h0]
      have HTK := Lib.hid htk
      obtain ⟨hfp, ⟨a8, m8, c8, hfb, -⟩, hk8, hpc⟩ := HS.out.fr L[k] f hf
      have hlk := HS.out.look1 L[k] hk8 f hf
      have gf := cell_blk hfb
      unfold frC at gf
      have i1 : (k : Int) < (LL : Int) := by omega
      have i0 : (0 : Int) ≤ (k : Int) := by omega
      have j0 : (0 : Int) ≤ (((L.take k).filter (pnd x)).length : Int) := by omega
      have j1 : (((L.take k).filter (pnd x)).length : Int) ≤ 4096 := by omega
      change w1.cell? (q.add k) = some (.int .i64 ((L[k] : Nat) : Int)) at hc
      generalize L[k] = nn at *
      generalize ((L.take k).filter (pnd x)) = LK at *
      clear hf hfb hpc hfp hkl htk hcl
      by_cases h0 : 0 < f.pins
      · have z : (0 : Int) < (f.pins : Int) := by omega
        have HZ := Lib.hid h0
        clear h0
        go_wp2
        exact ⟨⟨k + 1, by omega, by go_num, by rw [HTK.out, if_pos HZ.out, List.length_append]; go_num, rfl⟩, by simp [ivOf]; omega⟩
      · have z : ¬ (0 : Int) < (f.pins : Int) := by omega
        have z0 : f.pins = 0 := by omega
        rw [z0] at gf
        have HZ := Lib.hid h0
        clear h0 z z0
        go_wp2
        exact ⟨⟨k + 1, by omega, by go_num, by rw [HTK.out, if_neg HZ.out, List.append_nil], rfl⟩, by simp [ivOf]; omega⟩
    · obtain rfl : k = LL := by omega
      have hfin : ((L.take k).filter (pnd x)).length = x.pinned := by rw [List.take_of_length_le (by have := HLL.out; omega)]; exact HP.out
      have HF := Lib.hid hfin
      clear hfin hcl
      go_wp2
      go_ret
      exact ⟨by rw [← HF.out]; rfl, HB.out⟩
end Go.Proofs.YtocepcibcapfbaaGreat
