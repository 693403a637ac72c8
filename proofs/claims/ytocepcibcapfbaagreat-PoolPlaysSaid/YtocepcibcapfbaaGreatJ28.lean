/- The pool: oldest, leave, room. -/
import Derived.Test.YtocepcibcapfbaaGreatJ27
namespace Go.Proofs.YtocepcibcapfbaaGreat
set_option linter.unusedVariables false
set_option linter.unusedSimpArgs false
set_option linter.unusedSectionVars false
open Go.RowKit
variable [Inhabited AvT]
variable {B o c : Nat} {w : World} {p d np N : Nat} {xd : P.Dv} {M : Nat → Option P.Fr} {od : List Nat} {mb n : Nat} {F : Nat → Nat} {vo : Value} {V : Int → Option Value}

def vicI (l : List P.Fr) : Int := match P.victim l with
  | none => -1
  | some f => (f.pg : Int)
def Vic (l : List P.Fr) (x : Int) : Prop := (P.victim l = none ∧ x = -1) ∨ ∃ f i, P.victim l = some f ∧ x = ((i : Nat) : Int) ∧ (l.map (·.pg))[i]? = some f.pg
theorem vic_ix (pr : Int → Bool) : ∀ (l : List P.Fr), (∀ f ∈ l, pr (f.pg : Int) = (f.pins == 0)) → Vic l (ixOf pr ((l.map (·.pg)).map Int.ofNat))
  | [], _ => .inl ⟨rfl, rfl⟩
  | f :: r, h => by
    have hf := h f List.mem_cons_self
    have ih := vic_ix pr r (fun g hg => h g (List.mem_cons_of_mem _ hg))
    have e1 : ixOf pr (((f :: r).map (·.pg)).map Int.ofNat) = if pr (f.pg : Int) = true then 0 else if ixOf pr ((r.map (·.pg)).map Int.ofNat) < 0 then -1 else ixOf pr ((r.map (·.pg)).map Int.ofNat) + 1 := rfl
    have e2 : P.victim (f :: r) = if f.pins == 0 then some f else P.victim r := by
      unfold P.victim
      rw [List.find?_cons]
      cases (f.pins == 0) <;> rfl
    rw [e1, hf]
    unfold Vic
    rw [e2]
    rcases hz : (f.pins == 0) with _ | _
    · rcases ih with ⟨h1, h2⟩ | ⟨g, i, h1, h2, h3⟩
      · left
        refine ⟨by simpa using h1, ?_⟩
        rw [h2]
        rfl
      · right
        refine ⟨g, i + 1, by simpa using h1, ?_, by simpa using h3⟩
        rw [h2, if_neg (by simp), if_neg (by omega)]
        omega
    · right
      exact ⟨f, 0, by simp, by simp, by simp⟩
theorem old2_prd (h : PoS B o c w p d np N xd M od mb n F vo V) (b : Nat) (hb : w.cell? ⟨b, 0, none⟩ = some (.pointer (some ⟨p, 0, none⟩))) (l : List Int) (hl : ∀ x ∈ l, ∃ k f, x = ((k : Nat) : Int) ∧ M k = some f) :
    Prd 90 #[.pointer (some ⟨b, 0, none⟩)] l (fun x => (M x.toNat).any fun f => f.pins == 0) w := by
  intro x hx
  obtain ⟨k, f, rfl, hf⟩ := hl x hx
  obtain ⟨hfp, ⟨a, m, cp, hfb, -⟩, hk, hpc⟩ := h.fr k f hf
  have hlk := h.look1 k hk f hf
  have g := cell_blk h.pool
  unfold poolC at g
  have gf := cell_blk hfb
  unfold frC at gf
  have HQ := Lib.hid (show ((M ((k : Int)).toNat).any fun f => f.pins == 0) = (((f.pins : Nat) : Int) == 0) by
    rw [Int.toNat_natCast, hf]
    simp only [Option.any_some]
    rw [Bool.eq_iff_iff]
    simp)
  show Calls Tryz.prog 90 #[.int .i64 (k : Int), .pointer (some ⟨b, 0, none⟩)] w fun e w' => e = .returned (.bool ((M ((k : Int)).toNat).any fun f => f.pins == 0)) ∧ w = w'
  rw [HQ.out]
  clear h hx hf hfb hpc hl HQ
  go_enter Tryz.func90, Tryz.ntmps90
  go_wp2
  go_ret
  exact ⟨rfl, rfl⟩
theorem old2_en (args : Array Value) (w : World) : (callFunc 90 args).run Tryz.prog w = .ok (.enter 90 args) w :=
  enter_of Tryz.func90 (by kernel_rfl) (by kernel_rfl) args w
theorem old1_any {l : List P.Fr} (h : PoS B o c w p d np N xd (P.at? l) (l.map (·.pg)) mb n F vo V) (hd : (l.map (·.pg)).Nodup) (b : Nat) (hb : w.cell? ⟨b, 0, none⟩ = some (.pointer (some ⟨p, 0, none⟩))) :
    Calls Tryz.prog 89 #[.pointer (some ⟨b, 0, none⟩)] w fun e w' => e = .returned (.int .i64 (vicI l)) ∧ w = w' := by
  have hmf : ∀ (fn : Fn) (first cap : Array Value) (w : World), (Instr.makeFunc fn first cap).run Tryz.prog w = .ok (.func fn first cap) w := fun _ _ _ _ => rfl
  have hM : ∀ f ∈ l, P.at? l f.pg = some f := fun f hf => P.at_mem hd hf
  obtain ⟨a, cp, hvo, hri0, -⟩ := h.ord.form
  have hri : RI w a (l.map (·.pg)).length ((l.map (·.pg)).map Int.ofNat) := hri0
  have hprd := old2_prd h b hb ((l.map (·.pg)).map Int.ofNat) (fun x hx => by
    obtain ⟨k, hk, rfl⟩ := List.mem_map.1 hx
    obtain ⟨f, hf, rfl⟩ := List.mem_map.1 hk
    exact ⟨f.pg, f, rfl, hM f hf⟩)
  have hix := idxf_any _ _ old2_en _ _ a (l.map (·.pg)).length cp w hri hprd (by have := h.big.2.2.2.1; omega)
  have hv := vic_ix (fun x => (P.at? l x.toNat).any fun f => f.pins == 0) l (fun f hf => by
    show ((P.at? l ((f.pg : Int)).toNat).any fun f => f.pins == 0) = _
    rw [Int.toNat_natCast, hM f hf]
    rfl)
  have HIX := Lib.hid hix
  have HRI := Lib.hid hri
  have g := cell_blk h.pool
  rw [hvo] at g
  unfold poolC at g
  have HL := Lib.hid h.big.2.2.2.1
  obtain ⟨X, hX⟩ : ∃ X, X = ixOf (fun x => (P.at? l x.toNat).any fun f => f.pins == 0) ((l.map (·.pg)).map Int.ofNat) := ⟨_, rfl⟩
  rw [← hX] at hv HIX
  obtain ⟨L, hL⟩ : ∃ L, L = (l.map (·.pg)).length := ⟨_, rfl⟩
  rw [← hL] at g HIX HL HRI
  have HL2 := Lib.hid hL
  clear hix hri hri0 h hprd hM hd hvo hX hL
  rcases hv with ⟨h1, rfl⟩ | ⟨f, i, h1, rfl, h3⟩
  · have HV := Lib.hid (show vicI l = -1 by unfold vicI; rw [h1])
    clear h1
    go_enter Tryz.func89, Tryz.ntmps89
    go_wp2_with (go_at_call 83; refine HIX.out.mono ?_; rintro e w1 ⟨rfl, rfl⟩)
    go_ret
    exact ⟨by rw [HV.out]; rfl, rfl⟩
  · have HV := Lib.hid (show vicI l = (f.pg : Int) by unfold vicI; rw [h1])
    have hil := (List.getElem?_eq_some_iff.1 h3).1
    have i0 : (0 : Int) ≤ (i : Int) := by omega
    have i1 : (i : Int) < (L : Int) := by have := HL2.out; omega
    obtain ⟨q, hq, hc⟩ := HRI.out.at i (by simpa using hil)
    subst hq
    have hce : ((l.map (·.pg)).map Int.ofNat)[i]'(by simpa using hil) = (f.pg : Int) := by
      obtain ⟨hh, h4⟩ := List.getElem?_eq_some_iff.1 h3
      rw [List.getElem_map, h4]
      rfl
    rw [hce] at hc
    clear h1 h3 hce hil
    go_enter Tryz.func89, Tryz.ntmps89
    go_wp2_with (go_at_call 83; refine HIX.out.mono ?_; rintro e w1 ⟨rfl, rfl⟩)
    go_ret
    exact ⟨by rw [HV.out]; rfl, rfl⟩
theorem old_any (w : World) (p : Nat) : Calls Tryz.prog 79 #[.pointer (some ⟨p, 0, none⟩)] w fun e w' => e = .returned (.func (.func 89) #[] #[.pointer (some ⟨w.heap.size, 0, none⟩)]) ∧ w' = w.alloc (.cells #[.pointer (some ⟨p, 0, none⟩)] 32) := by
  have hmf : ∀ (fn : Fn) (first cap : Array Value) (w : World), (Instr.makeFunc fn first cap).run Tryz.prog w = .ok (.func fn first cap) w := fun _ _ _ _ => rfl
  go_enter Tryz.func79, Tryz.ntmps79
  go_wp2
  go_ret
  exact ⟨rfl, rfl⟩
end Go.Proofs.YtocepcibcapfbaaGreat
