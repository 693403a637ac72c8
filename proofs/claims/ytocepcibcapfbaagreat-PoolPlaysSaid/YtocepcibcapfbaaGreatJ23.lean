/- Chapters 5 and 9, plain: what stays so, whatever is done. -/
import Derived.Test.YtocepcibcapfbaaGreatJ05
namespace Go.Proofs.YtocepcibcapfbaaGreat.P
set_option linter.unusedVariables false
set_option linter.unusedSimpArgs false

theorem at_some {l : List Fr} {n : Nat} {f : Fr} (h : at? l n = some f) : f ∈ l ∧ f.pg = n := by
  unfold at? at h
  exact ⟨List.mem_of_find?_eq_some h, by simpa using List.find?_some h⟩
theorem at_none {l : List Fr} {n : Nat} : at? l n = none ↔ ∀ f ∈ l, f.pg ≠ n := by
  unfold at?
  rw [List.find?_eq_none]
  simp
theorem off_map (l : List Fr) (n : Nat) : (off l n).map (·.pg) = (l.map (·.pg)).filter (fun m => m != n) := by
  unfold off
  rw [List.filter_map]
  rfl
theorem off_sub (l : List Fr) (n : Nat) : (off l n).Sublist l := List.filter_sublist
theorem off_nodup {l : List Fr} (n : Nat) (h : (l.map (·.pg)).Nodup) : ((off l n).map (·.pg)).Nodup := h.sublist ((off_sub l n).map _)
theorem off_not (l : List Fr) (n : Nat) : ∀ f ∈ off l n, f.pg ≠ n := by
  intro f hf
  unfold off at hf
  simpa using (List.mem_filter.1 hf).2
theorem off_none {l : List Fr} {n : Nat} (h : at? l n = none) : off l n = l := by
  unfold off
  rw [List.filter_eq_self]
  intro f hf
  simpa using at_none.1 h f hf
theorem off_length {l : List Fr} {n : Nat} {f : Fr} (hd : (l.map (·.pg)).Nodup) (hf : f ∈ l) (hn : f.pg = n) : (off l n).length + 1 = l.length := by
  induction l with
  | nil => simp at hf
  | cons x l ih =>
    simp only [List.map_cons, List.nodup_cons] at hd
    by_cases hx : x.pg = n
    · have h1 : at? l n = none := at_none.2 (fun g hg e => hd.1 (List.mem_map.2 ⟨g, hg, by rw [e, hx]⟩))
      have h2 := off_none h1
      unfold off at h2 ⊢
      rw [List.filter_cons_of_neg (by simpa using hx), h2]
      simp
    · have hfl : f ∈ l := by
        rcases List.mem_cons.1 hf with h | h
        · subst h; exact absurd hn hx
        · exact h
      have := ih hd.2 hfl
      unfold off at this ⊢
      rw [List.filter_cons_of_pos (by simpa using hx)]
      simp only [List.length_cons]
      omega
theorem off_snoc_nodup {l : List Fr} {n : Nat} (f : Fr) (hd : (l.map (·.pg)).Nodup) (hn : f.pg = n) : ((off l n ++ [f]).map (·.pg)).Nodup := by
  rw [List.map_append, List.nodup_append]
  refine ⟨off_nodup n hd, by simp, ?_⟩
  intro a ha b hb e
  simp only [List.map_cons, List.map_nil, List.mem_singleton] at hb
  obtain ⟨g, hg, rfl⟩ := List.mem_map.1 ha
  exact off_not l n g hg (by rw [e, hb, hn])
theorem victim_some {l : List Fr} {f : Fr} (h : victim l = some f) : f ∈ l ∧ f.pins = 0 := by
  unfold victim at h
  exact ⟨List.mem_of_find?_eq_some h, by simpa using List.find?_some h⟩
theorem Dv.op_img (d : Dv) : d.op.img = d.img := by unfold Dv.op; split <;> rfl
theorem Dv.rd_img (d : Dv) : d.rdD.img = d.img := by
  unfold Dv.rdD
  split
  · rfl
  · exact d.op_img
theorem Dv.wr_len (d : Dv) (np n : Nat) (b : List UInt8) (hl : d.img.length = 256 * np) (hb : b.length = 256) (hn : n < np) : (d.wrD n b).img.length = 256 * np := by
  unfold Dv.wrD
  split
  · exact hl
  · split
    · rw [d.op_img]; exact hl
    · exact setP_length _ _ _ _ hl hb hn
theorem Dv.op_ops (d : Dv) : d.op.ops = d.ops + 1 := by unfold Dv.op; split <;> rfl
theorem Dv.wr_ops (d : Dv) (n : Nat) (b : List UInt8) : (d.wrD n b).ops ≤ d.ops + 1 := by
  have := d.op_ops
  unfold Dv.wrD
  split
  · omega
  · split
    · omega
    · show d.op.ops ≤ d.ops + 1; omega
theorem Dv.rd_ops (d : Dv) : d.rdD.ops ≤ d.ops + 1 := by
  have := d.op_ops
  unfold Dv.rdD
  split <;> omega
theorem one_ops (p : Po) : p.oneP.d.ops ≤ p.d.ops + 1 := by
  unfold Po.oneP
  split
  · omega
  · rename_i f _
    split
    · exact p.d.wr_ops f.pg f.b
    · show p.d.ops ≤ p.d.ops + 1; omega
theorem take_ops (p : Po) (N : Nat) : (p.takeP N).d.ops ≤ p.d.ops + 1 := by
  unfold Po.takeP
  split
  · omega
  · exact one_ops p
theorem one_ok {N np : Nat} {p : Po} (h : p.ok N np) : p.oneP.ok N np := by
  obtain ⟨h1, h2, h3, h4⟩ := h
  unfold Po.oneP
  cases hv : victim p.l with
  | none => exact ⟨h1, h2, h3, h4⟩
  | some f =>
    have hf := victim_some hv
    have hs := (off_sub p.l f.pg)
    have hb := h2 f hf.1
    have hlen := hs.length_le
    simp only
    split
    · refine ⟨?_, ?_, ?_, Dv.wr_len _ _ _ _ h4 hb.2 hb.1⟩
      · simp only []
        split
        · exact off_nodup _ h1
        · exact h1
      · simp only []
        intro g hg
        split at hg
        · exact h2 g (hs.subset hg)
        · exact h2 g hg
      · simp only []
        split <;> omega
    · exact ⟨off_nodup _ h1, fun g hg => h2 g (hs.subset hg), by simp only []; omega, h4⟩
theorem one_room {N np : Nat} {p : Po} (h : p.ok N np) (he : p.oneE = 0) : p.oneP.l.length + 1 = p.l.length := by
  obtain ⟨h1, h2, h3, h4⟩ := h
  unfold Po.oneE at he
  unfold Po.oneP
  cases hv : victim p.l with
  | none => rw [hv] at he; simp at he
  | some f =>
    rw [hv] at he
    simp only at he ⊢
    have hf := victim_some hv
    by_cases hd : f.dirty = true
    · rw [if_pos hd] at he ⊢
      simp only [he, if_true]
      exact off_length h1 hf.1 rfl
    · rw [if_neg hd]
      exact off_length h1 hf.1 rfl
theorem one_at {p : Po} {n : Nat} (h : at? p.l n = none) : at? p.oneP.l n = none := by
  rw [at_none] at h ⊢
  unfold Po.oneP
  cases hv : victim p.l with
  | none => exact h
  | some f =>
    simp only
    intro g hg
    have : g ∈ p.l := by
      split at hg
      · simp only at hg
        split at hg
        · exact (off_sub _ _).subset hg
        · exact hg
      · exact (off_sub _ _).subset hg
    exact h g this
theorem take_ok {N np : Nat} {p : Po} (h : p.ok N np) : (p.takeP N).ok N np := by
  unfold Po.takeP
  split
  · exact h
  · exact one_ok h
theorem take_room {N np : Nat} {p : Po} (h : p.ok N np) (he : p.takeE N = 0) : (p.takeP N).l.length < N := by
  unfold Po.takeE at he
  unfold Po.takeP
  split
  · assumption
  · rename_i hn
    rw [if_neg hn] at he
    have := one_room h he
    have := h.2.2.1
    omega
theorem take_at {N : Nat} {p : Po} {n : Nat} (h : at? p.l n = none) : at? (p.takeP N).l n = none := by
  unfold Po.takeP
  split
  · exact h
  · exact one_at h
theorem snoc_ok {N np : Nat} {p : Po} (h : p.ok N np) (f : Fr) (hn : at? p.l f.pg = none) (hp : f.pg < np) (hb : f.b.length = 256) (hl : p.l.length < N) (d : Dv) (hd : d.img.length = 256 * np) : (⟨d, p.l ++ [f]⟩ : Po).ok N np := by
  obtain ⟨h1, h2, h3, h4⟩ := h
  refine ⟨?_, ?_, ?_, hd⟩
  · have := off_snoc_nodup f h1 rfl
    rwa [off_none hn] at this
  · intro g hg
    rcases List.mem_append.1 hg with h | h
    · exact h2 g h
    · rw [List.mem_singleton] at h
      subst h
      exact ⟨hp, hb⟩
  · simp only [List.length_append, List.length_cons, List.length_nil]
    omega
theorem use_ok {N np : Nat} {p : Po} (h : p.ok N np) (n : Nat) (f g : Fr) (hf : at? p.l n = some f) (hg : g.pg = n) (hb : g.b.length = 256) : (⟨p.d, off p.l n ++ [g]⟩ : Po).ok N np := by
  obtain ⟨h1, h2, h3, h4⟩ := h
  have ha := at_some hf
  refine ⟨off_snoc_nodup g h1 hg, ?_, ?_, h4⟩
  · intro x hx
    rcases List.mem_append.1 hx with h | h
    · exact h2 x ((off_sub _ _).subset h)
    · rw [List.mem_singleton] at h
      subst h
      exact ⟨by rw [hg, ← ha.2]; exact (h2 f ha.1).1, hb⟩
  · have := off_length h1 ha.1 ha.2
    simp only [List.length_append, List.length_cons, List.length_nil]
    omega
theorem pin_ok {N np : Nat} {p : Po} (h : p.ok N np) (n : Int) : (p.pinP N np n).ok N np := by
  unfold Po.pinP
  split
  · exact h
  · rename_i hr
    cases ha : at? p.l n.toNat with
    | some f => exact use_ok h _ f _ ha (at_some ha).2 (h.2.1 f (at_some ha).1).2
    | none =>
      simp only
      have ht := take_ok (N := N) h
      split
      · rename_i he
        split
        · exact snoc_ok ht ⟨n.toNat, 1, false, pgD (p.takeP N).d.img n.toNat⟩ (take_at ha) (show n.toNat < np by omega) (pgD_length _ np _ ht.2.2.2 (by omega)) (take_room h he) _ (by rw [Dv.rd_img]; exact ht.2.2.2)
        · exact ⟨ht.1, ht.2.1, ht.2.2.1, by simp only [Dv.rd_img]; exact ht.2.2.2⟩
      · exact ht
theorem map_ok {N np : Nat} {p : Po} (h : p.ok N np) (u : Fr → Fr) (h1 : ∀ f, (u f).pg = f.pg) (h2 : ∀ f, (u f).b = f.b) (d : Dv) (hd : d.img.length = 256 * np) : (⟨d, p.l.map u⟩ : Po).ok N np := by
  obtain ⟨k1, k2, k3, k4⟩ := h
  refine ⟨?_, ?_, by simpa using k3, hd⟩
  · rw [List.map_map]
    have : (fun f : Fr => f.pg) ∘ u = fun f => f.pg := by funext f; exact h1 f
    rw [show ((fun x : Fr => x.pg) ∘ u) = fun f => f.pg from this]
    exact k1
  · intro g hg
    obtain ⟨f, hf, rfl⟩ := List.mem_map.1 hg
    rw [h1, h2]
    exact k2 f hf
theorem un_ok {N np : Nat} {p : Po} (h : p.ok N np) (n : Int) : (p.unP n).ok N np := by
  unfold Po.unP
  split
  · exact map_ok h _ (fun f => by split <;> rfl) (fun f => by split <;> rfl) _ h.2.2.2
  · exact h
theorem put_ok {N np : Nat} {p : Po} (h : p.ok N np) (n : Int) (b : List UInt8) : (p.putP N np n b).ok N np := by
  unfold Po.putP
  split
  · exact h
  · rename_i hr
    cases ha : at? p.l n.toNat with
    | some f => exact use_ok h _ f _ ha rfl (show b.length = 256 by omega)
    | none =>
      simp only
      have ht := take_ok (N := N) h
      split
      · rename_i he
        exact snoc_ok ht ⟨n.toNat, 0, true, b⟩ (take_at ha) (show n.toNat < np by omega) (show b.length = 256 by omega) (take_room h he) _ ht.2.2.2
      · exact ht
theorem for_ok {N np : Nat} {p : Po} (h : p.ok N np) (n : Int) : (p.forP n).ok N np := by
  unfold Po.forP
  split
  · obtain ⟨h1, h2, h3, h4⟩ := h
    have hs := off_sub p.l n.toNat
    have := hs.length_le
    exact ⟨off_nodup _ h1, fun g hg => h2 g (hs.subset hg), by simp only []; omega, h4⟩
  · exact h
theorem clean_ok {N np : Nat} {p : Po} (h : p.ok N np) (n : Nat) (hn : n < np) : (clean1 p n).ok N np := by
  unfold clean1
  cases ha : at? p.l n with
  | none => exact h
  | some f =>
    have hb := (h.2.1 f (at_some ha).1).2
    have hd := Dv.wr_len p.d np n f.b h.2.2.2 hb hn
    simp only
    split
    · exact map_ok h _ (fun f => by split <;> rfl) (fun f => by split <;> rfl) _ hd
    · exact ⟨h.1, h.2.1, h.2.2.1, hd⟩
end Go.Proofs.YtocepcibcapfbaaGreat.P
/- Chapter 9, plain: few frames tell all. -/
namespace Go.Proofs.YtocepcibcapfbaaGreat.P
set_option linter.unusedVariables false
set_option linter.unusedSimpArgs false

/-- On a device that does not fail: what was put last is told. -/
structure Tl (N np : Nat) (p : Po) (want : Nat → List UInt8) : Prop where
  ok : p.ok N np
  well : p.d.well
  pins : ∀ f ∈ p.l, f.pins = 0
  here : ∀ f ∈ p.l, f.b = want f.pg ∧ (f.dirty = false → pgD p.d.img f.pg = want f.pg)
  away : ∀ n, n < np → at? p.l n = none → pgD p.d.img n = want n
theorem at_mem {l : List Fr} {f : Fr} (hd : (l.map (·.pg)).Nodup) (hf : f ∈ l) : at? l f.pg = some f := by
  induction l with
  | nil => simp at hf
  | cons x l ih =>
    simp only [List.map_cons, List.nodup_cons] at hd
    unfold at?
    rcases List.mem_cons.1 hf with h | h
    · subst h
      simp
    · have hx : x.pg ≠ f.pg := fun e => hd.1 (List.mem_map.2 ⟨f, h, e.symm⟩)
      rw [List.find?_cons_of_neg (by simpa using hx)]
      exact ih hd.2 h
theorem at_off_ne (l : List Fr) (n m : Nat) (h : m ≠ n) : at? (off l n) m = at? l m := by
  induction l with
  | nil => rfl
  | cons x l ih =>
    unfold off at? at ih ⊢
    by_cases hx : x.pg = n
    · rw [List.filter_cons_of_neg (by simpa using hx), ih, List.find?_cons_of_neg (by simp; omega)]
    · rw [List.filter_cons_of_pos (by simpa using hx)]
      by_cases hm : x.pg = m
      · rw [List.find?_cons_of_pos (by simpa using hm), List.find?_cons_of_pos (by simpa using hm)]
      · rw [List.find?_cons_of_neg (by simpa using hm), List.find?_cons_of_neg (by simpa using hm), ih]
theorem at_off_self (l : List Fr) (n : Nat) : at? (off l n) n = none := at_none.2 (off_not l n)
theorem at_snoc (l : List Fr) (f : Fr) (n : Nat) : at? (l ++ [f]) n = if at? l n = none ∧ f.pg = n then some f else at? l n := by
  unfold at?
  rw [List.find?_append]
  cases h : l.find? (fun f => f.pg == n) with
  | some g => simp
  | none =>
    by_cases e : f.pg = n
    · simp [e]
    · simp [e]
theorem at_map (l : List Fr) (u : Fr → Fr) (hu : ∀ f, (u f).pg = f.pg) (n : Nat) : at? (l.map u) n = (at? l n).map u := by
  unfold at?
  induction l with
  | nil => rfl
  | cons x l ih =>
    rw [List.map_cons]
    by_cases h : x.pg = n
    · rw [List.find?_cons_of_pos (by simp [hu, h]), List.find?_cons_of_pos (by simpa using h)]; rfl
    · rw [List.find?_cons_of_neg (by simp [hu, h]), List.find?_cons_of_neg (by simpa using h), ih]
theorem victim_none {l : List Fr} (h : victim l = none) (hp : ∀ f ∈ l, f.pins = 0) : l = [] := by
  cases l with
  | nil => rfl
  | cons x l =>
    unfold victim at h
    rw [List.find?_cons_of_pos (by simpa using hp x (by simp))] at h
    cases h
theorem Dv.wr_well {d : Dv} (h : d.well) (n : Nat) (b : List UInt8) : (d.wrD n b).well := by
  rw [(Dv.well_wr h n b).2]
  exact h
theorem Dv.rd_well {d : Dv} (h : d.well) : d.rdD.well := by
  rw [(Dv.well_rd h).2]
  exact h
theorem Tl.one {N np : Nat} {p : Po} {want : Nat → List UInt8} (h : Tl N np p want) : (p.oneE = 0 ∨ (p.oneE = 6 ∧ p.l = [])) ∧ Tl N np p.oneP want := by
  have hok := one_ok h.ok
  unfold Po.oneE Po.oneP at *
  cases hv : victim p.l with
  | none =>
    simp only
    exact ⟨.inr ⟨trivial, victim_none hv h.pins⟩, h⟩
  | some f =>
    rw [hv] at hok
    simp only at hok ⊢
    have hf := victim_some hv
    have hfb := h.ok.2.1 f hf.1
    have hw := Dv.well_wr h.well f.pg f.b
    have hat := at_mem h.ok.1 hf.1
    by_cases hd : f.dirty = true
    · simp only [if_pos hd, hw.1, if_true] at hok ⊢
      refine ⟨.inl trivial, hok, Dv.wr_well h.well _ _, fun g hg => h.pins g ((off_sub _ _).subset hg), ?_, ?_⟩
      · intro g hg
        have hg' := (off_sub _ _).subset hg
        have hne := off_not _ _ g hg
        have := h.here g hg'
        refine ⟨this.1, fun hc => ?_⟩
        rw [hw.2]
        simp only
        rw [pg_setP _ np _ _ h.ok.2.2.2 hfb.2 hfb.1 _ (h.ok.2.1 g hg').1, if_neg hne]
        exact this.2 hc
      · intro n hn ha
        rw [hw.2]
        simp only
        rw [pg_setP _ np _ _ h.ok.2.2.2 hfb.2 hfb.1 _ hn]
        by_cases e : n = f.pg
        · rw [if_pos e, e]
          exact (h.here f hf.1).1
        · rw [if_neg e]
          rw [at_off_ne _ _ _ e] at ha
          exact h.away n hn ha
    · simp only [if_neg hd] at hok ⊢
      refine ⟨.inl trivial, hok, h.well, fun g hg => h.pins g ((off_sub _ _).subset hg), fun g hg => h.here g ((off_sub _ _).subset hg), ?_⟩
      intro n hn ha
      by_cases e : n = f.pg
      · rw [e]
        exact (h.here f hf.1).2 (by simpa using hd)
      · rw [at_off_ne _ _ _ e] at ha
        exact h.away n hn ha
theorem Tl.take {N np : Nat} {p : Po} {want : Nat → List UInt8} (h : Tl N np p want) (hN : 0 < N) : p.takeE N = 0 ∧ Tl N np (p.takeP N) want := by
  unfold Po.takeE Po.takeP
  by_cases hl : p.l.length < N
  · rw [if_pos hl, if_pos hl]
    exact ⟨rfl, h⟩
  · rw [if_neg hl, if_neg hl]
    obtain ⟨h1 | ⟨-, h1⟩, h2⟩ := h.one
    · exact ⟨h1, h2⟩
    · rw [h1] at hl
      simp at hl
      omega
/-- A page is pinned and given back. -/
theorem Tl.pin {N np : Nat} {p : Po} {want : Nat → List UInt8} (h : Tl N np p want) (hN : 0 < N) (n : Nat) (hn : n < np) :
    p.pinE N np n = 0 ∧ p.pinB N np n = want n ∧ (p.pinP N np n).unE n = 0 ∧ Tl N np ((p.pinP N np n).unP n) want := by
  have hok := un_ok (pin_ok h.ok (n : Int)) (n : Int)
  have hr : ¬ ((n : Int) < 0 ∨ (np : Int) ≤ n) := by omega
  have htn : (n : Int).toNat = n := by omega
  have hn0 : ¬ (n : Int) < 0 := by omega
  unfold Po.pinE Po.pinB Po.unE Po.unP at *
  unfold pins? at *
  unfold Po.pinP at *
  simp only [if_neg hr, htn, if_neg hn0] at hok ⊢
  cases ha : at? p.l n with
  | some f =>
    have hf := at_some ha
    have hfp := h.pins f hf.1
    have hb := h.here f hf.1
    rw [ha] at hok
    have hat : at? (off p.l n ++ [{ f with pins := f.pins + 1 }]) n = some { f with pins := f.pins + 1 } := by
      rw [at_snoc, if_pos ⟨at_off_self _ _, hf.2⟩]
    simp only [hat] at hok ⊢
    simp only [Nat.zero_lt_succ, if_true, Nat.succ_pos] at hok ⊢
    refine ⟨trivial, by rw [hb.1, hf.2], trivial, hok, h.well, ?_, ?_, ?_⟩
    · intro g hg
      simp only [List.map_append, List.mem_append, List.mem_map, List.map_cons, List.map_nil, List.mem_singleton] at hg
      rcases hg with ⟨x, hx, rfl⟩ | rfl
      · rw [if_neg (off_not _ _ x hx)]
        exact h.pins x ((off_sub _ _).subset hx)
      · rw [if_pos hf.2]
        simp only []
        omega
    · intro g hg
      simp only [List.map_append, List.mem_append, List.mem_map, List.map_cons, List.map_nil, List.mem_singleton] at hg
      rcases hg with ⟨x, hx, rfl⟩ | rfl
      · rw [if_neg (off_not _ _ x hx)]
        exact h.here x ((off_sub _ _).subset hx)
      · rw [if_pos hf.2]
        exact hb
    · intro m hm hm2
      simp only at hm2
      rw [at_map _ _ (fun f => by split <;> rfl), Option.map_eq_none_iff, at_snoc] at hm2
      by_cases e : m = n
      · rw [e, if_pos ⟨at_off_self _ _, hf.2⟩] at hm2
        cases hm2
      · rw [if_neg (fun c => e (by rw [← hf.2]; exact c.2.symm)), at_off_ne _ _ _ e] at hm2
        exact h.away m hm hm2
  | none =>
    rw [ha] at hok
    obtain ⟨t1, t2⟩ := h.take hN
    have ta := take_at (N := N) ha
    obtain ⟨r1, r2⟩ := Dv.well_rd t2.well
    have hpg := t2.away n hn ta
    simp only [t1, r1, if_true] at hok ⊢
    have hat : at? ((p.takeP N).l ++ [⟨n, 1, false, pgD (p.takeP N).d.img n⟩]) n = some ⟨n, 1, false, pgD (p.takeP N).d.img n⟩ := by
      rw [at_snoc, if_pos ⟨ta, rfl⟩]
    simp only [hat, Nat.zero_lt_one, if_true] at hok ⊢
    refine ⟨trivial, hpg, trivial, hok, Dv.rd_well t2.well, ?_, ?_, ?_⟩
    · intro g hg
      simp only [List.map_append, List.mem_append, List.mem_map, List.map_cons, List.map_nil, List.mem_singleton] at hg
      rcases hg with ⟨x, hx, rfl⟩ | rfl
      · rw [if_neg (at_none.1 ta x hx)]
        exact t2.pins x hx
      · simp
    · intro g hg
      simp only [List.map_append, List.mem_append, List.mem_map, List.map_cons, List.map_nil, List.mem_singleton] at hg
      simp only [Dv.rd_img]
      rcases hg with ⟨x, hx, rfl⟩ | rfl
      · rw [if_neg (at_none.1 ta x hx)]
        exact t2.here x hx
      · simp only [if_true]
        exact ⟨hpg, fun _ => hpg⟩
    · intro m hm hm2
      simp only [Dv.rd_img] at hm2 ⊢
      rw [at_map _ _ (fun f => by split <;> rfl), Option.map_eq_none_iff, at_snoc] at hm2
      by_cases e : m = n
      · rw [e, if_pos ⟨ta, rfl⟩] at hm2
        cases hm2
      · rw [if_neg (fun c => e c.2.symm)] at hm2
        exact t2.away m hm hm2
/-- A page is put. -/
theorem Tl.put {N np : Nat} {p : Po} {want : Nat → List UInt8} (h : Tl N np p want) (hN : 0 < N) (n : Nat) (hn : n < np) (b : List UInt8) (hb : b.length = 256) :
    p.putE N np n b = 0 ∧ Tl N np (p.putP N np n b) (fun m => if m = n then b else want m) := by
  have hok := put_ok h.ok (n : Int) b
  have hr : ¬ ((n : Int) < 0 ∨ (np : Int) ≤ n ∨ b.length ≠ 256) := by omega
  have htn : (n : Int).toNat = n := by omega
  unfold Po.putE
  unfold Po.putP at *
  simp only [if_neg hr, htn] at hok ⊢
  cases ha : at? p.l n with
  | some f =>
    have hf := at_some ha
    rw [ha] at hok
    simp only at hok ⊢
    refine ⟨trivial, hok, h.well, ?_, ?_, ?_⟩
    · intro g hg
      rcases List.mem_append.1 hg with hg | hg
      · exact h.pins g ((off_sub _ _).subset hg)
      · rw [List.mem_singleton] at hg
        subst hg
        exact h.pins f hf.1
    · intro g hg
      rcases List.mem_append.1 hg with hg | hg
      · rw [if_neg (off_not _ _ g hg)]
        exact h.here g ((off_sub _ _).subset hg)
      · rw [List.mem_singleton] at hg
        subst hg
        exact ⟨(if_pos rfl).symm, fun e => by cases e⟩
    · intro m hm hm2
      simp only at hm2
      rw [at_snoc] at hm2
      by_cases e : m = n
      · rw [e, if_pos ⟨at_off_self _ _, rfl⟩] at hm2
        cases hm2
      · rw [if_neg (fun c => e c.2.symm), at_off_ne _ _ _ e] at hm2
        simp only [if_neg e]
        exact h.away m hm hm2
  | none =>
    rw [ha] at hok
    obtain ⟨t1, t2⟩ := h.take hN
    have ta := take_at (N := N) ha
    simp only [t1, if_true] at hok ⊢
    refine ⟨trivial, hok, t2.well, ?_, ?_, ?_⟩
    · intro g hg
      rcases List.mem_append.1 hg with hg | hg
      · exact t2.pins g hg
      · rw [List.mem_singleton] at hg
        subst hg
        rfl
    · intro g hg
      rcases List.mem_append.1 hg with hg | hg
      · rw [if_neg (at_none.1 ta g hg)]
        exact t2.here g hg
      · rw [List.mem_singleton] at hg
        subst hg
        exact ⟨(if_pos rfl).symm, fun e => by cases e⟩
    · intro m hm hm2
      simp only at hm2
      rw [at_snoc] at hm2
      by_cases e : m = n
      · rw [e, if_pos ⟨ta, rfl⟩] at hm2
        cases hm2
      · rw [if_neg (fun c => e c.2.symm)] at hm2
        simp only [if_neg e]
        exact t2.away m hm hm2
theorem Tl.clean {N np : Nat} {p : Po} {want : Nat → List UInt8} (h : Tl N np p want) (n : Nat) (hn : n < np) : p.d.wrE = 0 ∧ Tl N np (clean1 p n) want ∧ ∀ m, (at? (clean1 p n).l m).any (·.dirty) = ((at? p.l m).any (·.dirty) && m != n) := by
  have hok := clean_ok h.ok n hn
  obtain ⟨w1, -⟩ := Dv.well_wr h.well 0 []
  unfold clean1 at *
  cases ha : at? p.l n with
  | none =>
    refine ⟨w1, h, fun m => ?_⟩
    simp only
    by_cases e : m = n
    · rw [e, ha]; rfl
    · simp [e]
  | some f =>
    have hf := at_some ha
    have hfb := h.ok.2.1 f hf.1
    have hw := Dv.well_wr h.well n f.b
    rw [ha] at hok
    simp only [w1, if_true] at hok ⊢
    have hu : ∀ g : Fr, (if g.pg = n then { g with dirty := false } else g).pg = g.pg := fun g => by split <;> rfl
    refine ⟨trivial, ⟨hok, Dv.wr_well h.well _ _, ?_, ?_, ?_⟩, ?_⟩
    · intro g hg
      obtain ⟨x, hx, rfl⟩ := List.mem_map.1 hg
      have := h.pins x hx
      split <;> exact this
    · intro g hg
      obtain ⟨x, hx, rfl⟩ := List.mem_map.1 hg
      have hxh := h.here x hx
      have hxp := (h.ok.2.1 x hx).1
      rw [hw.2]
      simp only [hu]
      rw [pg_setP _ np _ _ h.ok.2.2.2 hfb.2 hn _ hxp]
      by_cases e : x.pg = n
      · have hxf : x = f := by
          have := at_mem h.ok.1 hx
          rw [e, ha] at this
          exact (Option.some.inj this).symm
        rw [if_pos e, if_pos e]
        exact ⟨hxh.1, fun _ => by rw [← hxf]; exact hxh.1⟩
      · rw [if_neg e, if_neg e]
        exact hxh
    · intro m hm hm2
      simp only at hm2
      rw [at_map _ _ hu, Option.map_eq_none_iff] at hm2
      have e : m ≠ n := fun e => by rw [e, ha] at hm2; cases hm2
      rw [hw.2]
      simp only
      rw [pg_setP _ np _ _ h.ok.2.2.2 hfb.2 hn _ hm, if_neg e]
      exact h.away m hm hm2
    · intro m
      rw [at_map _ _ hu]
      by_cases e : m = n
      · rw [e, ha]
        simp [hf.2]
      · cases hm : at? p.l m with
        | none => simp
        | some g =>
          have hg := at_some hm
          simp [hg.2, e]
theorem Tl.flush {N np : Nat} {want : Nat → List UInt8} (r : List Nat) (hr : ∀ n ∈ r, n < np) : ∀ {p : Po}, Tl N np p want → flushE r p = 0 ∧ Tl N np (flushP r p) want ∧ ∀ m, (at? (flushP r p).l m).any (·.dirty) = ((at? p.l m).any (·.dirty) && !r.contains m) := by
  induction r with
  | nil => intro p h; exact ⟨rfl, h, fun m => by simp [flushP]⟩
  | cons n r ih =>
    intro p h
    obtain ⟨c1, c2, c3⟩ := h.clean n (hr n (by simp))
    obtain ⟨i1, i2, i3⟩ := ih (fun m hm => hr m (by simp [hm])) c2
    unfold flushE flushP
    rw [if_pos c1, if_pos c1]
    refine ⟨i1, i2, fun m => ?_⟩
    rw [i3, c3, Bool.and_assoc]
    congr 1
    by_cases e : m = n
    · simp [e]
    · simp [e]
/-- Flushed, no page is dirty; all is on the device. -/
theorem Tl.flushed {N np : Nat} {p : Po} {want : Nat → List UInt8} (h : Tl N np p want) : flushE (p.dirt np) p = 0 ∧ Tl N np (flushP (p.dirt np) p) want ∧ (flushP (p.dirt np) p).dirt np = [] ∧ ∀ n, n < np → pgD (flushP (p.dirt np) p).d.img n = want n := by
  obtain ⟨h1, h2, h3⟩ := Tl.flush (p.dirt np) (fun n hn => by unfold Po.dirt at hn; simpa using (List.mem_filter.1 hn).1) h
  have hno : ∀ m, m < np → (at? (flushP (p.dirt np) p).l m).any (·.dirty) = false := by
    intro m hm
    rw [h3]
    cases hd : (at? p.l m).any (·.dirty) with
    | false => rfl
    | true =>
      have : (p.dirt np).contains m = true := by
        rw [List.contains_iff_mem]
        unfold Po.dirt
        exact List.mem_filter.2 ⟨List.mem_range.2 hm, hd⟩
      rw [this]
      rfl
  refine ⟨h1, h2, ?_, ?_⟩
  · generalize flushP (p.dirt np) p = q at hno
    unfold Po.dirt
    rw [List.filter_eq_nil_iff]
    intro m hm
    rw [hno m (List.mem_range.1 hm)]
    simp
  · intro n hn
    cases ha : at? (flushP (p.dirt np) p).l n with
    | none => exact h2.away n hn ha
    | some f =>
      have hf := at_some ha
      have := h2.here f hf.1
      have hc := hno n hn
      rw [ha] at hc
      rw [← hf.2]
      exact this.2 (by simpa using hc)
end Go.Proofs.YtocepcibcapfbaaGreat.P
/- Chapter 9, plain: pinned pages stay; who leaves is the page that was used longest ago. -/
namespace Go.Proofs.YtocepcibcapfbaaGreat.P
set_option linter.unusedVariables false
set_option linter.unusedSimpArgs false

theorem at_isSome {l : List Fr} {n : Nat} : (at? l n).isSome = true ↔ n ∈ l.map (·.pg) := by
  constructor
  · intro h
    obtain ⟨f, hf⟩ := Option.isSome_iff_exists.1 h
    have := at_some hf
    exact List.mem_map.2 ⟨f, this.1, this.2⟩
  · intro h
    obtain ⟨f, hf, rfl⟩ := List.mem_map.1 h
    cases ha : at? l f.pg with
    | some g => rfl
    | none => exact absurd rfl (at_none.1 ha f hf)
theorem filter_lt (N np : Nat) (h : N ≤ np) : ((List.range np).filter fun n => decide (n < N)).length = N := by
  induction np with
  | zero => have : N = 0 := by omega
            subst this; rfl
  | succ np ih =>
    rw [List.range_succ, List.filter_append, List.length_append]
    by_cases hN : N ≤ np
    · rw [ih hN]
      have : ([np].filter fun n => decide (n < N)) = [] := by simp [hN]
      rw [this]; rfl
    · have hN2 : N = np + 1 := by omega
      subst hN2
      have e1 : ((List.range np).filter fun n => decide (n < np + 1)) = List.range np := by
        rw [List.filter_eq_self]
        intro a ha
        have := List.mem_range.1 ha
        simp; omega
      rw [e1]
      simp
/-- All frames hold pinned pages: the pages 0 to N - 1. -/
structure Fl (N np : Nat) (p : Po) : Prop where
  ok : p.ok N np
  len : p.l.length = N
  pins : ∀ f ∈ p.l, 0 < f.pins
  all : ∀ n, (at? p.l n).isSome = decide (n < N)
theorem Fl.victim {N np : Nat} {p : Po} (h : Fl N np p) : victim p.l = none := by
  unfold P.victim
  rw [List.find?_eq_none]
  intro f hf
  have := h.pins f hf
  simp; omega
theorem Fl.one {N np : Nat} {p : Po} (h : Fl N np p) : p.oneE = 6 ∧ p.oneP = p := by
  unfold Po.oneE Po.oneP
  rw [h.victim]
  exact ⟨rfl, rfl⟩
theorem Fl.take {N np : Nat} {p : Po} (h : Fl N np p) : p.takeE N = 6 ∧ p.takeP N = p := by
  unfold Po.takeE Po.takeP
  rw [if_neg (by rw [h.len]; omega), if_neg (by rw [h.len]; omega)]
  exact h.one
theorem Fl.res {N np : Nat} {p : Po} (h : Fl N np p) (hN : N ≤ np) : (p.res np).length = N := by
  unfold Po.res
  have : (fun n => (at? p.l n).isSome) = fun n => decide (n < N) := by funext n; exact h.all n
  rw [this]
  exact filter_lt N np hN
/-- The first k pages pinned. -/
structure Fk (N np k : Nat) (p : Po) : Prop where
  ok : p.ok N np
  well : p.d.well
  pgs : p.l.map (·.pg) = List.range k
  pins : ∀ f ∈ p.l, f.pins = 1
structure Ou (np : Nat) (p : Po) (u : List Nat) : Prop where
  ok : p.ok 8 np
  well : p.d.well
  pgs : p.l.map (·.pg) = u.reverse
  free : ∀ f ∈ p.l, f.pins = 0 ∧ f.dirty = false
theorem Ou.res {np : Nat} {p : Po} {u : List Nat} (h : Ou np p u) (n : Nat) : n ∈ p.res np ↔ n ∈ u := by
  unfold Po.res
  rw [List.mem_filter, List.mem_range, at_isSome, h.pgs, List.mem_reverse]
  constructor
  · exact fun h => h.2
  · intro hu
    refine ⟨?_, hu⟩
    have h1 : n ∈ p.l.map (·.pg) := by rw [h.pgs]; exact List.mem_reverse.2 hu
    obtain ⟨f, hf, rfl⟩ := List.mem_map.1 h1
    exact (h.ok.2.1 f hf).1
theorem Ou.len {np : Nat} {p : Po} {u : List Nat} (h : Ou np p u) : (p.res np).length = u.length := by
  have h1 : (p.res np).Nodup := List.Nodup.sublist List.filter_sublist List.nodup_range
  have h2 := h.ok.1
  rw [h.pgs] at h2
  have h3 : (p.res np).Perm u.reverse := (List.perm_ext_iff_of_nodup h1 h2).2 (fun n => by rw [h.res n, List.mem_reverse])
  rw [h3.length_eq, List.length_reverse]
end Go.Proofs.YtocepcibcapfbaaGreat.P
/- Chapter 9, plain: nine pages put into eight frames. -/
namespace Go.Proofs.YtocepcibcapfbaaGreat.P
set_option linter.unusedVariables false
set_option linter.unusedSimpArgs false

/-- The first k pages put; F: their bytes. -/
structure Kn (np : Nat) (F : Nat → List UInt8) (k : Nat) (p : Po) : Prop where
  ok : p.ok 8 np
  well : p.d.well
  pgs : p.l.map (·.pg) = List.range k
  each : ∀ f ∈ p.l, f.pins = 0 ∧ f.dirty = true ∧ f.b = F f.pg
theorem Kn.len {np k : Nat} {F : Nat → List UInt8} {p : Po} (h : Kn np F k p) : p.l.length = k := by
  have := congrArg List.length h.pgs
  simpa using this
end Go.Proofs.YtocepcibcapfbaaGreat.P
/- Frames, plain: how many ops, how long; one pin. -/
namespace Go.Proofs.YtocepcibcapfbaaGreat.P
set_option linter.unusedVariables false
set_option linter.unusedSimpArgs false

theorem ok_le {N np : Nat} {p : Po} (h : p.ok N np) : p.l.length ≤ np := by
  have h1 : (p.l.map (·.pg)).Sublist (p.l.map (·.pg)) := List.Sublist.refl _
  have h2 : (p.l.map (·.pg)) ⊆ List.range np := fun k hk => by
    obtain ⟨f, hf, rfl⟩ := List.mem_map.1 hk
    exact List.mem_range.2 (h.2.1 f hf).1
  have h3 := h.1.length_le_of_subset h2
  simpa using h3
theorem un_d (p : Po) (n : Int) : (p.unP n).d = p.d := by unfold Po.unP; split <;> rfl
theorem for_d (p : Po) (n : Int) : (p.forP n).d = p.d := by unfold Po.forP; split <;> rfl
theorem pin_ops (N np : Nat) (p : Po) (n : Int) : (p.pinP N np n).d.ops ≤ p.d.ops + 2 := by
  have h1 := take_ops p N
  have h2 := (p.takeP N).d.rd_ops
  unfold Po.pinP
  split
  · omega
  · split
    · show p.d.ops ≤ _; omega
    · split
      · split
        · show (p.takeP N).d.rdD.ops ≤ _; omega
        · show (p.takeP N).d.rdD.ops ≤ _; omega
      · omega
theorem put_ops (N np : Nat) (p : Po) (n : Int) (b : List UInt8) : (p.putP N np n b).d.ops ≤ p.d.ops + 1 := by
  have h1 := take_ops p N
  unfold Po.putP
  split
  · omega
  · split
    · show p.d.ops ≤ _; omega
    · split
      · show (p.takeP N).d.ops ≤ _; omega
      · omega
theorem clean1_ops (p : Po) (n : Nat) : (clean1 p n).d.ops ≤ p.d.ops + 1 := by
  unfold clean1
  split
  · rename_i f _
    exact p.d.wr_ops n f.b
  · omega
theorem flush_ops (r : List Nat) : ∀ p : Po, (flushP r p).d.ops ≤ p.d.ops + r.length := by
  induction r with
  | nil => intro p; exact Nat.le_refl _
  | cons n r ih =>
    intro p
    have h1 := clean1_ops p n
    have h2 := ih (clean1 p n)
    simp only [flushP, List.length_cons]
    split <;> omega
theorem dirt_len (np : Nat) (p : Po) : (p.dirt np).length ≤ np := by
  unfold Po.dirt
  exact Nat.le_trans (List.length_filter_le _ _) (by simp)
theorem ev_ops {N np : Nat} (k : Nat) : ∀ {p : Po}, p.ok N np → (evP k p).d.ops ≤ p.d.ops + p.l.length + 1 := by
  induction k with
  | zero => intro p h; show p.d.ops ≤ _; omega
  | succ k ih =>
    intro p h
    have h1 := one_ops p
    show (if p.oneE = 0 then evP k p.oneP else p.oneP).d.ops ≤ _
    split
    · rename_i he
      have h2 := one_room h he
      have h3 := ih (one_ok h)
      omega
    · omega
theorem Tl.unpinned {N np : Nat} {p : Po} {want : Nat → List UInt8} (h : Tl N np p want) (hN : 0 < N) (n : Nat) (hn : n < np) : (p.pinP N np n).pinned = 1 := by
  have hz : ∀ (l : List Fr), (∀ f ∈ l, f.pins = 0) → (l.filter fun f => decide (0 < f.pins)) = [] := fun l hl => List.filter_eq_nil_iff.2 (fun f hf => by have := hl f hf; simp; omega)
  have hr : ¬ ((n : Int) < 0 ∨ (np : Int) ≤ n) := by omega
  unfold Po.pinned Po.pinP
  rw [if_neg hr]
  have htn : (n : Int).toNat = n := by omega
  rw [htn]
  cases ha : at? p.l n with
  | some f =>
    simp only
    have hf := h.pins f (at_some ha).1
    rw [List.filter_append, hz _ (fun g hg => h.pins g ((off_sub p.l n).subset hg))]
    simp
  | none =>
    obtain ⟨h1, h2⟩ := h.take hN
    obtain ⟨h3, h4⟩ := Dv.well_rd h2.well
    simp only
    rw [if_pos h1, if_pos h3]
    simp only
    rw [List.filter_append, hz _ h2.pins]
    simp
theorem Tl.start (N np : Nat) (d : Dv) (hd : d.well) (hi : d.img.length = 256 * np) : Tl N np ⟨d, []⟩ (fun n => pgD d.img n) :=
  ⟨⟨List.nodup_nil, fun f hf => by simp at hf, Nat.zero_le _, hi⟩, hd, fun f hf => by simp at hf, fun f hf => by simp at hf, fun n hn _ => rfl⟩
end Go.Proofs.YtocepcibcapfbaaGreat.P
/- Chapter 9, plain: a frame by its place in the order. -/
namespace Go.Proofs.YtocepcibcapfbaaGreat.P
set_option linter.unusedVariables false
set_option linter.unusedSimpArgs false

theorem at_get {l : List Fr} (h : (l.map (·.pg)).Nodup) (i : Nat) (hi : i < l.length) : at? l l[i].pg = some l[i] := at_mem h (List.getElem_mem hi)
theorem at_no {l : List Fr} {n : Nat} (h : ∀ f ∈ l, f.pg ≠ n) : at? l n = none := by
  unfold at?
  rw [List.find?_eq_none]
  intro f hf
  simpa using h f hf
theorem off_erase : ∀ (l : List Fr) (k : Nat) (hk : k < l.length), (l.map (·.pg)).Nodup → off l l[k].pg = l.eraseIdx k
  | f :: l, 0, _, h => by
    simp only [List.map_cons, List.nodup_cons] at h
    show off (f :: l) f.pg = l
    unfold off
    rw [List.filter_cons_of_neg (by simp), List.filter_eq_self]
    intro g hg
    simp only [bne_iff_ne, ne_eq]
    intro e
    exact h.1 (e ▸ List.mem_map_of_mem hg)
  | f :: l, k + 1, hk, h => by
    have hk' : k < l.length := by simpa using hk
    simp only [List.map_cons, List.nodup_cons] at h
    show off (f :: l) l[k].pg = f :: l.eraseIdx k
    have hne : f.pg ≠ l[k].pg := fun e => h.1 (e ▸ List.mem_map_of_mem (List.getElem_mem hk'))
    have ih := off_erase l k hk' h.2
    unfold off at ih ⊢
    rw [List.filter_cons_of_pos (by simpa using hne), ih]
theorem map_set : ∀ (l : List Fr) (k : Nat) (hk : k < l.length) (F : Fr → Fr), (l.map (·.pg)).Nodup → (l.map fun f => if f.pg = l[k].pg then F f else f) = l.set k (F l[k])
  | f :: l, 0, _, F, h => by
    simp only [List.map_cons, List.nodup_cons] at h
    show _ = F f :: l
    rw [List.map_cons]
    congr 1
    · exact if_pos rfl
    · conv => rhs; rw [← List.map_id l]
      refine List.map_congr_left fun g hg => ?_
      show (if g.pg = f.pg then F g else g) = g
      rw [if_neg (fun e : g.pg = f.pg => h.1 (e ▸ List.mem_map_of_mem hg))]
  | f :: l, k + 1, hk, F, h => by
    have hk' : k < l.length := by simpa using hk
    simp only [List.map_cons, List.nodup_cons] at h
    have ih := map_set l k hk' F h.2
    rw [List.map_cons]
    show _ = f :: l.set k (F l[k])
    congr 1
    exact if_neg (fun e : f.pg = l[k].pg => h.1 (e ▸ List.mem_map_of_mem (List.getElem_mem hk')))
theorem victim_at {l : List Fr} {k : Nat} (hk : k < l.length) (h0 : l[k].pins = 0) (h : ∀ j (hj : j < k), 0 < (l[j]'(by omega)).pins) : victim l = some l[k] := by
  unfold victim
  rw [List.find?_eq_some_iff_getElem]
  refine ⟨by simp [h0], k, hk, rfl, fun j hj => ?_⟩
  have := h j hj
  simp
  omega
theorem victim_no {l : List Fr} (h : ∀ f ∈ l, 0 < f.pins) : victim l = none := by
  unfold victim
  rw [List.find?_eq_none]
  intro f hf
  have := h f hf
  simp
  omega
end Go.Proofs.YtocepcibcapfbaaGreat.P
/- Chapter 9, plain: the outcomes that are left never grow by themselves. -/
namespace Go.Proofs.YtocepcibcapfbaaGreat.P
set_option linter.unusedVariables false
set_option linter.unusedSimpArgs false

theorem op_outs (d : Dv) : d.op.outs.length ≤ d.outs.length := by
  unfold Dv.op
  split
  · exact Nat.le_refl _
  · show d.outs.tail.length ≤ _
    rw [List.length_tail]
    omega
theorem rd_outs (d : Dv) : d.rdD.outs.length ≤ d.outs.length := by
  unfold Dv.rdD
  split
  · exact Nat.le_refl _
  · exact op_outs d
theorem wr_outs (d : Dv) (n : Nat) (b : List UInt8) : (d.wrD n b).outs.length ≤ d.outs.length := by
  unfold Dv.wrD
  split
  · exact Nat.le_refl _
  · split
    · exact op_outs d
    · exact op_outs d
theorem one_outs (p : Po) : p.oneP.d.outs.length ≤ p.d.outs.length := by
  unfold Po.oneP
  split
  · exact Nat.le_refl _
  · split
    · exact wr_outs _ _ _
    · exact Nat.le_refl _
theorem take_outs (N : Nat) (p : Po) : (p.takeP N).d.outs.length ≤ p.d.outs.length := by
  unfold Po.takeP
  split
  · exact Nat.le_refl _
  · exact one_outs p
theorem pin_outs (N np : Nat) (p : Po) (n : Int) : (p.pinP N np n).d.outs.length ≤ p.d.outs.length := by
  have h1 := take_outs N p
  have h2 := rd_outs (p.takeP N).d
  unfold Po.pinP
  split
  · exact Nat.le_refl _
  · split
    · exact Nat.le_refl _
    · split
      · split
        · exact Nat.le_trans h2 h1
        · exact Nat.le_trans h2 h1
      · exact h1
theorem put_outs (N np : Nat) (p : Po) (n : Int) (b : List UInt8) : (p.putP N np n b).d.outs.length ≤ p.d.outs.length := by
  have h1 := take_outs N p
  unfold Po.putP
  split
  · exact Nat.le_refl _
  · split
    · exact Nat.le_refl _
    · split
      · exact h1
      · exact h1
theorem clean_outs (p : Po) (n : Nat) : (clean1 p n).d.outs.length ≤ p.d.outs.length := by
  unfold clean1
  split
  · exact wr_outs _ _ _
  · exact Nat.le_refl _
theorem flush_outs : ∀ (r : List Nat) (p : Po), (flushP r p).d.outs.length ≤ p.d.outs.length
  | [], p => Nat.le_refl _
  | n :: r, p => by
    show (if p.d.wrE = 0 then flushP r (clean1 p n) else clean1 p n).d.outs.length ≤ _
    split
    · exact Nat.le_trans (flush_outs r _) (clean_outs p n)
    · exact clean_outs p n
theorem ev_outs : ∀ (k : Nat) (p : Po), (evP k p).d.outs.length ≤ p.d.outs.length
  | 0, p => Nat.le_refl _
  | k + 1, p => by
    show (if p.oneE = 0 then evP k p.oneP else p.oneP).d.outs.length ≤ _
    split
    · exact Nat.le_trans (ev_outs k _) (one_outs p)
    · exact one_outs p
end Go.Proofs.YtocepcibcapfbaaGreat.P
