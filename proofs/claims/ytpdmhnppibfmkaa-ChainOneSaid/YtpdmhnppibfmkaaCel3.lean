/- What a page of cells tells, made again, is that page. Plain law. -/
import Derived.Test.YtpdmhnppibfmkaaCel2
namespace Go.Proofs.Ytpdmhnppibfmkaa.P
theorem be_get (b : List UInt8) (at_ n : Nat) (h1 : 1 ≤ n) (h2 : n ≤ 8) (h : at_ + n ≤ b.length) (hf : (get b (at_ : Nat) (n : Nat)).2 = true) : be n (get b (at_ : Nat) (n : Nat)).1.toNat = slice b at_ n := by
  have hl : lies b.length (at_ : Nat) (n : Nat) = true := by simp [lies]; omega
  have hlen : (slice b at_ n).length = n := by simp [slice]; omega
  have hb := be_num (slice b at_ n)
  rw [hlen] at hb
  unfold get at hf ⊢
  rw [if_pos hl] at hf ⊢
  simp only [Int.toNat_natCast] at hf ⊢
  by_cases hq : 4611686018427387904 < num (slice b at_ n)
  · rw [if_pos hq] at hf; cases hf
  · rw [if_neg hq]
    simpa using hb
theorem get_fit (b : List UInt8) (at_ n : Nat) (h1 : 1 ≤ n) (h7 : n ≤ 7) (h : at_ + n ≤ b.length) : (get b (at_ : Nat) (n : Nat)).2 = true := by
  have hl : lies b.length (at_ : Nat) (n : Nat) = true := by simp [lies]; omega
  unfold get
  rw [if_pos hl]
  simp only [Int.toNat_natCast]
  have hlen : (slice b at_ n).length = n := by simp [slice]; omega
  have hlt := num_lt (slice b at_ n)
  rw [hlen] at hlt
  have : 256 ^ n ≤ 256 ^ 7 := Nat.pow_le_pow_right (by omega) h7
  rw [if_neg (by omega)]
theorem get_unf (b : List UInt8) (at_ n : Int) (h : (get b at_ n).2 = false) : (get b at_ n).1 = 0 := by
  unfold get at *
  by_cases h1 : lies b.length at_ n = true
  · rw [if_pos h1] at h ⊢
    simp only at h ⊢
    by_cases h2 : 4611686018427387904 < num (slice b at_.toNat n.toNat)
    · rw [if_pos h2]
    · rw [if_neg h2] at h; cases h
  · rw [if_neg h1]
theorem slice_app (b : List UInt8) (i m n : Nat) : slice b i m ++ slice b (i + m) n = slice b i (m + n) := by
  unfold slice
  rw [List.take_add, List.drop_drop]
theorem slice_all (b : List UInt8) (n : Nat) (h : b.length = n) : slice b 0 n = b := by simp [slice, ← h]
theorem encP_dec (b : List UInt8) (hl : b.length = 12) (h : okP b = true) : (decP b).encP = b := by
  simp only [okP, Bool.and_eq_true, decide_eq_true_eq] at h
  have e0 := be_get b 0 4 (by omega) (by omega) (by omega) (get_fit b 0 4 (by omega) (by omega) (by omega))
  have e1 := be_get b 4 2 (by omega) (by omega) (by omega) (get_fit b 4 2 (by omega) (by omega) (by omega))
  have e2 := be_get b 6 2 (by omega) (by omega) (by omega) (get_fit b 6 2 (by omega) (by omega) (by omega))
  have e3 := be_get b 8 2 (by omega) (by omega) (by omega) (get_fit b 8 2 (by omega) (by omega) (by omega))
  have e4 := be_get b 10 2 (by omega) (by omega) (by omega) (get_fit b 10 2 (by omega) (by omega) (by omega))
  simp only [Int.cast_ofNat_Int] at e1 e2 e3 e4
  have e0' : be 4 (get b 0 4).1.toNat = slice b 0 4 := e0
  rw [h.2] at e4
  unfold Q.encP decP
  have e4' : be 2 0 = slice b 10 2 := e4
  simp only [e0', e1, e2, e3, e4']
  rw [slice_app b 0 4 2, slice_app b 0 6 2, slice_app b 0 8 2, slice_app b 0 10 2]
  exact slice_all b 12 hl
theorem encK_dec (b : List UInt8) (hl : b.length = 20) (h : okK b = true) : (decK b).encK = b := by
  have hm := (decK b).mayK_iff.1 h
  have hf : (get b 8 8).2 = true := by
    rcases hq : (get b 8 8).2 with _ | _
    · have := get_unf b 8 8 hq
      have hc : (decK b).c = (get b 8 8).1 := rfl
      omega
    · rfl
  have e0 := be_get b 0 4 (by omega) (by omega) (by omega) (get_fit b 0 4 (by omega) (by omega) (by omega))
  have e1 := be_get b 4 4 (by omega) (by omega) (by omega) (get_fit b 4 4 (by omega) (by omega) (by omega))
  have e2 := be_get b 8 8 (by omega) (by omega) (by omega) hf
  have e3 := be_get b 16 4 (by omega) (by omega) (by omega) (get_fit b 16 4 (by omega) (by omega) (by omega))
  simp only [Int.cast_ofNat_Int] at e1 e2 e3
  have e0' : be 4 (get b 0 4).1.toNat = slice b 0 4 := e0
  unfold Q.encK decK
  simp only [e0', e1, e2, e3]
  rw [slice_app b 0 4 4, slice_app b 0 8 8, slice_app b 0 16 4]
  exact slice_all b 20 hl
/-- A page is the same with noughts of its body left out. -/
theorem page_cut (k l c : Nat) (body : List UInt8) (n : Nat) (hl : body.length = 248) (hn : n ≤ 248) (hz : zeros (body.drop n) = true) : page k l c (body.take n) = page k l c body := by
  have ht : tail k l c (body.take n) = tail k l c body := by
    unfold tail
    have hr : body.drop n = List.replicate (248 - n) 0 := by
      have := List.eq_replicate_of_mem (l := body.drop n) (a := 0) (fun x hx => by simpa using List.all_eq_true.1 hz x hx)
      rw [this]
      simp [hl]
    have he : body.take n ++ List.replicate (248 - n) 0 = body := by rw [← hr, List.take_append_drop]
    have hlt : (body.take n).length = n := by simp; omega
    rw [hlt, hl, List.append_assoc, he]
    simp
  unfold page
  rw [ht]
theorem chunk_length (sz : Nat) (body : List UInt8) (n i : Nat) (hi : i < n) (hb : sz * n ≤ body.length) : (chunk sz body i).length = sz := by
  have : sz * (i + 1) ≤ sz * n := Nat.mul_le_mul_left _ (by omega)
  rw [Nat.mul_add] at this
  simp [chunk]
  omega
theorem again (k v c : Int) (b : List UInt8) (n : Nat) (h : openErr b = 0) (hk : (openKind b : Int) = k) (hv : (openLevel b : Int) = v) (hc : (openCount b : Int) = c) (hn : n ≤ 248) (hz : zeros ((openBody b).drop n) = true) :
    page k.toNat v.toNat c.toNat ((openBody b).take n) = b := by
  obtain ⟨s1, s2⟩ := seal_open b h
  have e1 : oK b = k := by simp [oK, h, hk]
  have e2 : oL b = v := by simp [oL, h, hv]
  have e3 : oC b = c := by simp [oC, h, hc]
  have e4 : oB b = openBody b := by simp [oB, h]
  rw [e1, e2, e3, e4] at s1 s2
  unfold sealB at s2
  rw [if_pos s1] at s2
  have hb : (openBody b).length = 248 := by have := openErr_len b h; simp [openBody]; omega
  rw [page_cut _ _ _ _ n hb hn hz, s2]
theorem pcErr_zero {b : List UInt8} (h : pcErr b = 0) : openErr b = 0 ∧ goodP b := by
  unfold pcErr at h
  by_cases h1 : openErr b = 0
  · rw [if_neg (by simpa using h1)] at h
    by_cases h2 : goodP b
    · exact ⟨h1, h2⟩
    · rw [if_neg h2] at h; omega
  · rw [if_pos (by simpa using h1)] at h; exact absurd h h1
theorem kdErr_zero {b : List UInt8} (h : kdErr b = 0) : openErr b = 0 ∧ goodK b := by
  unfold kdErr at h
  by_cases h1 : openErr b = 0
  · rw [if_neg (by simpa using h1)] at h
    by_cases h2 : goodK b
    · exact ⟨h1, h2⟩
    · rw [if_neg h2] at h; omega
  · rw [if_pos (by simpa using h1)] at h; exact absurd h h1
theorem txErr_zero {b : List UInt8} (h : txErr b = 0) : openErr b = 0 ∧ goodT b := by
  unfold txErr at h
  by_cases h1 : openErr b = 0
  · rw [if_neg (by simpa using h1)] at h
    by_cases h2 : goodT b
    · exact ⟨h1, h2⟩
    · rw [if_neg h2] at h; omega
  · rw [if_pos (by simpa using h1)] at h; exact absurd h h1
theorem leaf_again (b : List UInt8) (h : pcErr b = 0) : leafErr (pcL b) = 0 ∧ leafB (pcL b) = b := by
  obtain ⟨h1, g1, g2, g3, g4, g5, g6⟩ := pcErr_zero h
  have hb : (openBody b).length = 248 := by have := openErr_len b h1; simp [openBody]; omega
  have hl : pcL b = cellsOf decP 12 (openBody b) (openCount b) := by unfold pcL; rw [if_pos h]
  have he : leafErr (pcL b) = 0 := by
    unfold leafErr
    rw [hl, if_pos]
    refine ⟨by rw [cellsOf_length]; exact g3, by rw [cellsOf_length]; exact g4, ?_⟩
    rw [List.all_eq_true]
    intro x hx
    simp only [cellsOf, List.mem_map, List.mem_range] at hx
    obtain ⟨i, hi, rfl⟩ := hx
    have := g6 i hi
    simp only [okP, Bool.and_eq_true] at this
    exact this.1
  refine ⟨he, ?_⟩
  unfold leafB
  rw [if_pos he, hl, cellsOf_length, encAll_cells decP Q.encP 12 _ _ (fun i hi => encP_dec _ (chunk_length 12 _ _ i hi (by omega)) (g6 i hi))]
  have := again 3 0 (openCount b) b (12 * openCount b) h1 (by omega) (by omega) rfl (by omega) g5
  simpa using this
theorem inn_again (b : List UInt8) (h : kdErr b = 0) : innErr (kdV b) (kdL b) = 0 ∧ innB (kdV b) (kdL b) = b := by
  obtain ⟨h1, g1, g2, g2', g3, g4, g5, g6⟩ := kdErr_zero h
  have hb : (openBody b).length = 248 := by have := openErr_len b h1; simp [openBody]; omega
  have hl : kdL b = cellsOf decK 20 (openBody b) (openCount b) := by unfold kdL; rw [if_pos h]
  have hv : kdV b = openLevel b := by unfold kdV; rw [if_pos h]
  have he : innErr (kdV b) (kdL b) = 0 := by
    unfold innErr
    rw [hl, hv, if_pos]
    refine ⟨by omega, by omega, by rw [cellsOf_length]; exact g3, by rw [cellsOf_length]; exact g4, ?_⟩
    rw [List.all_eq_true]
    intro x hx
    simp only [cellsOf, List.mem_map, List.mem_range] at hx
    obtain ⟨i, hi, rfl⟩ := hx
    exact g6 i hi
  refine ⟨he, ?_⟩
  unfold innB
  rw [if_pos he, hl, hv, cellsOf_length, encAll_cells decK Q.encK 20 _ _ (fun i hi => encK_dec _ (chunk_length 20 _ _ i hi (by omega)) (g6 i hi))]
  have := again 2 (openLevel b) (openCount b) b (20 * openCount b) h1 (by omega) rfl rfl (by omega) g5
  simpa using this
theorem txt_again (b : List UInt8) (h : txErr b = 0) : txtErr (txL b) = 0 ∧ txtB (txL b) = b := by
  obtain ⟨h1, g1, g2, g3, g4, g5⟩ := txErr_zero h
  have hb : (openBody b).length = 248 := by have := openErr_len b h1; simp [openBody]; omega
  have hl : txL b = (openBody b).take (openCount b) := by unfold txL; rw [if_pos h]
  have hlen : (txL b).length = openCount b := by rw [hl]; simp; omega
  have he : txtErr (txL b) = 0 := by
    unfold txtErr
    rw [if_pos (by omega)]
  refine ⟨he, ?_⟩
  unfold txtB
  rw [if_pos he, hlen, hl]
  have := again 4 0 (openCount b) b (openCount b) h1 (by omega) (by omega) rfl (by omega) g5
  simpa using this
end Go.Proofs.Ytpdmhnppibfmkaa.P
