/- The law of chapter 12: the image that Build leaves, page by page. Plain. -/
import Derived.Test.YtnjpaanjgbfbaaaGreatJ42
import Derived.Test.YtnjpaanjgbfbaaaGreatJ50
import Derived.Test.YtnjpaanjgbfbaaaGreatJ09
namespace Go.Proofs.YtnjpaanjgbfbaaaGreat
set_option linter.unusedVariables false
set_option linter.unusedSimpArgs false
open Go.RowKit

theorem lay_lo (img : List UInt8) (np A : Nat) (ps : List (List UInt8)) (hl : img.length = 256 * np) (hp : ∀ p ∈ ps, p.length = 256) (hA : A + ps.length ≤ np) (m : Nat) (hm : m < np) (h : m < A ∨ A + ps.length ≤ m) : P.pg (layN img A ps) m = P.pg img m := by
  rw [pg_layN img np A ps hl hp hA m hm]
  rcases h with h | h
  · rw [if_neg (by omega)]
  · rw [if_pos (by omega), List.getD_eq_getElem?_getD, List.getElem?_eq_none (by omega)]
    rfl
theorem lay_at (img : List UInt8) (np A : Nat) (ps : List (List UInt8)) (hl : img.length = 256 * np) (hp : ∀ p ∈ ps, p.length = 256) (hA : A + ps.length ≤ np) (i : Nat) (hi : i < ps.length) : P.pg (layN img A ps) (A + i) = ps[i] := by
  rw [pg_layN img np A ps hl hp hA _ (by omega), if_pos (by omega), List.getD_eq_getElem?_getD, show A + i - A = i from by omega, List.getElem?_eq_getElem hi]
  rfl
/-- Four rows of pages and a first page. -/
theorem four_rows (np : Nat) (Z : List UInt8) (T K C D : List (List UInt8)) (p0 : List UInt8) (a b c e : Nat) (hZ : Z.length = 256 * np) (hT : ∀ p ∈ T, p.length = 256) (hK : ∀ p ∈ K, p.length = 256) (hC : ∀ p ∈ C, p.length = 256) (hD : ∀ p ∈ D, p.length = 256)
    (h0 : p0.length = 256) (ha : 2 + T.length = a) (hb : a + K.length = b) (hc : b + C.length = c) (he : c + D.length = e) (hn : e ≤ np) (I : List UInt8) (hI : I = layAt (layN (layN (layN (layN Z 2 T) a K) b C) c D) (0 * 256) p0) :
    (∀ i (hi : i < T.length), P.pg I (2 + i) = T[i]) ∧ (∀ i (hi : i < K.length), P.pg I (a + i) = K[i]) ∧ (∀ i (hi : i < C.length), P.pg I (b + i) = C[i]) ∧ (∀ i (hi : i < D.length), P.pg I (c + i) = D[i]) ∧ P.pg I 0 = p0 ∧ (1 < np → P.pg I 1 = P.pg Z 1) ∧ I.length = 256 * np := by
  have l1 := layN_length Z np 2 T hZ hT (by omega)
  have l2 := layN_length _ np a K l1 hK (by omega)
  have l3 := layN_length _ np b C l2 hC (by omega)
  have l4 := layN_length _ np c D l3 hD (by omega)
  have hp : ∀ m, m < np → P.pg I m = if m = 0 then p0 else P.pg (layN (layN (layN (layN Z 2 T) a K) b C) c D) m := by
    intro m hm
    rw [hI]
    exact pg_lay _ np 0 p0 l4 h0 (by omega) m hm
  refine ⟨?_, ?_, ?_, ?_, ?_, ?_, ?_⟩
  · intro i hi
    rw [hp _ (by omega), if_neg (by omega), lay_lo _ np c D l3 hD (by omega) _ (by omega) (.inl (by omega)), lay_lo _ np b C l2 hC (by omega) _ (by omega) (.inl (by omega)), lay_lo _ np a K l1 hK (by omega) _ (by omega) (.inl (by omega)), lay_at _ np 2 T hZ hT (by omega) i hi]
  · intro i hi
    rw [hp _ (by omega), if_neg (by omega), lay_lo _ np c D l3 hD (by omega) _ (by omega) (.inl (by omega)), lay_lo _ np b C l2 hC (by omega) _ (by omega) (.inl (by omega)), lay_at _ np a K l1 hK (by omega) i hi]
  · intro i hi
    rw [hp _ (by omega), if_neg (by omega), lay_lo _ np c D l3 hD (by omega) _ (by omega) (.inl (by omega)), lay_at _ np b C l2 hC (by omega) i hi]
  · intro i hi
    rw [hp _ (by omega), if_neg (by omega), lay_at _ np c D l3 hD (by omega) i hi]
  · rw [hp 0 (by omega), if_pos rfl]
  · intro h1
    rw [hp 1 h1, if_neg (by omega), lay_lo _ np c D l3 hD (by omega) _ (by omega) (.inl (by omega)), lay_lo _ np b C l2 hC (by omega) _ (by omega) (.inl (by omega)), lay_lo _ np a K l1 hK (by omega) _ (by omega) (.inl (by omega)), lay_lo _ np 2 T hZ hT (by omega) _ (by omega) (.inl (by omega))]
  · rw [hI, layAt_length _ _ _ (by omega), l4]
theorem szI_ok (b : UInt8) : 1 ≤ szI b ∧ szI b ≤ 8 := by unfold szI; omega
theorem txI_ok (i n : Nat) (h : 1 ≤ n ∧ n ≤ 8) : P.txtErr (txI i n) = 0 := by
  unfold P.txtErr
  rw [txI_length, if_pos (by omega)]
/-- The piece of leaf j. -/
def pcI (j : Nat) (b : UInt8) : P.Q := ⟨((2 + j : Nat) : Int), 0, (szI b : Int), ((List.count 10 (txI j (szI b)) : Nat) : Int)⟩
theorem psI_get (i : Nat) (S : List UInt8) (j : Nat) (h : j < S.length) : (psI i S)[j]? = some (pcI (i + j) S[j]) := by
  induction S generalizing i j with
  | nil => simp at h
  | cons b S ih =>
    rcases j with _ | j
    · rfl
    · have h' := ih (i + 1) j (by simpa using h)
      show (psI (i + 1) S)[j]? = _
      rw [h', show i + 1 + j = i + (j + 1) from by omega]
      rfl
theorem txsI_get (i : Nat) (S : List UInt8) (j : Nat) (h : j < S.length) : (txsI i S)[j]? = some (txI (i + j) (szI S[j])) := by
  induction S generalizing i j with
  | nil => simp at h
  | cons b S ih =>
    rcases j with _ | j
    · rfl
    · have h' := ih (i + 1) j (by simpa using h)
      show (txsI (i + 1) S)[j]? = _
      rw [h', show i + 1 + j = i + (j + 1) from by omega]
      rfl
theorem psI_mem (S : List UInt8) (p : P.Q) (h : p ∈ psI 0 S) : ∃ j, ∃ hj : j < S.length, p = pcI j S[j] := by
  obtain ⟨j, hj, rfl⟩ := List.getElem_of_mem h
  have hj' : j < S.length := by rwa [psI_length] at hj
  refine ⟨j, hj', ?_⟩
  have := psI_get 0 S j hj'
  rw [List.getElem?_eq_getElem hj, Nat.zero_add] at this
  exact Option.some.inj this
theorem pcI_may (j : Nat) (b : UInt8) (h : j < 4000) : (pcI j b).mayP = true := by
  rw [P.Q.mayP_iff]
  have h1 := szI_ok b
  have h2 : List.count 10 (txI j (szI b)) ≤ szI b := by
    have := List.count_le_length (a := (10 : UInt8)) (l := txI j (szI b))
    rwa [txI_length] at this
  unfold pcI
  refine ⟨?_, ?_, ?_, ?_, ?_, ?_, ?_, ?_⟩ <;> simp only [] <;> omega
theorem pgs_psI (S : List UInt8) (m : Nat) : m ∈ P.pgs (psI 0 S) ↔ 2 ≤ m ∧ m < 2 + S.length := by
  constructor
  · intro h
    obtain ⟨p, hp, rfl⟩ := List.mem_map.1 h
    obtain ⟨j, hj, rfl⟩ := psI_mem S p hp
    show 2 ≤ ((2 + j : Nat) : Int).toNat ∧ ((2 + j : Nat) : Int).toNat < 2 + S.length
    omega
  · rintro ⟨h1, h2⟩
    have hj : m - 2 < S.length := by omega
    have := psI_get 0 S (m - 2) hj
    refine List.mem_map.2 ⟨pcI (0 + (m - 2)) S[m - 2], List.mem_of_getElem? this, ?_⟩
    show ((2 + (0 + (m - 2)) : Nat) : Int).toNat = m
    omega
theorem okPc_of (I : List UInt8) (np : Nat) (S : List UInt8) (hn : 2 + S.length ≤ np) (h : ∀ i (hi : i < S.length), P.pg I (2 + i) = P.txtB (txI i (szI S[i]))) : ∀ p ∈ psI 0 S, P.okPc I np p := by
  intro p hp
  obtain ⟨j, hj, rfl⟩ := psI_mem S p hp
  have ea : (pcI j S[j]).a.toNat = 2 + j := by show ((2 + j : Nat) : Int).toNat = _; omega
  have hb := P.txt_back _ (txI_ok j _ (szI_ok S[j]))
  unfold P.okPc P.cutP
  rw [ea, h j hj, hb.2]
  have hs : P.slice (txI j (szI S[j])) (pcI j S[j]).b.toNat (pcI j S[j]).c.toNat = txI j (szI S[j]) := P.slice_all _ _ (txI_length _ _)
  rw [hs, txI_length]
  refine ⟨by omega, by omega, hb.1, ?_, rfl⟩
  show 0 + ((szI S[j] : Nat) : Int).toNat ≤ szI S[j]
  omega
/-- The groups are as full as they have to be. -/
theorem Grp.full {l : List P.Q} {i : Nat} {G : List (List P.Q)} (h : Grp l i G) : (∀ g ∈ G, 1 ≤ g.length ∧ g.length ≤ 20) ∧ ((∀ g ∈ G, 10 ≤ g.length) ∨ (G.length = 1 ∧ i = l.length)) ∧ (i = 0 → G = []) := by
  induction h with
  | nil => simp
  | @snoc i G h hi ih =>
    obtain ⟨ih1, ih2, ih3⟩ := ih
    have hg := gsz_le (l.length - i)
    have hinv := h.inv
    have hlen : ((l.drop i).take (gsz (l.length - i))).length = gsz (l.length - i) := by
      rw [List.length_take, List.length_drop]; omega
    refine ⟨?_, ?_, ?_⟩
    · intro g hg'
      rcases List.mem_append.1 hg' with h1 | h1
      · exact ih1 g h1
      · rw [List.mem_singleton] at h1
        subst h1
        rw [hlen]
        omega
    · by_cases h0 : i = 0
      · have hG := ih3 h0
        subst hG
        by_cases h10 : 10 ≤ gsz (l.length - i)
        · left
          intro g hg'
          simp only [List.nil_append, List.mem_singleton] at hg'
          subst hg'
          rw [hlen]; exact h10
        · right
          refine ⟨rfl, ?_⟩
          unfold gsz at h10 ⊢
          split at h10
          · rw [if_pos (by assumption)]; omega
          · split at h10 <;> omega
      · left
        rcases ih2 with h2 | ⟨-, h2⟩
        · intro g hg'
          rcases List.mem_append.1 hg' with h1 | h1
          · exact h2 g h1
          · rw [List.mem_singleton] at h1
            subst h1
            rw [hlen]
            have : 10 ≤ l.length - i := by omega
            unfold gsz
            split
            · omega
            · split <;> omega
        · omega
    · intro h0
      omega
theorem leafErr_of (g : List P.Q) (h1 : 1 ≤ g.length ∧ g.length ≤ 20) (h : ∀ p ∈ g, p.mayP = true) : P.leafErr g = 0 := by
  unfold P.leafErr
  rw [if_pos ⟨h1.1, h1.2, List.all_eq_true.2 h⟩]
theorem may_sums (g : List P.Q) (h : ∀ p ∈ g, p.mayP = true) : (g.length : Int) ≤ (g.map (·.c)).sum ∧ (g.map (·.c)).sum ≤ 248 * g.length ∧ 0 ≤ (g.map (·.d)).sum ∧ (g.map (·.d)).sum ≤ (g.map (·.c)).sum := by
  induction g with
  | nil => simp
  | cons p g ih =>
    have h1 := (P.Q.mayP_iff _).1 (h p (by simp))
    have h2 := ih (fun q hq => h q (by simp [hq]))
    simp only [List.map_cons, List.sum_cons, List.length_cons]
    omega
theorem kids_eq (A : Nat) (G : List (List P.Q)) : kidsOf A G = P.kids1 A G := by
  induction G generalizing A with
  | nil => rfl
  | cons g G ih =>
    show kidOf A g :: kidsOf (A + 1) G = P.kid1 A g :: P.kids1 (A + 1) G
    rw [ih]
    rfl
theorem kids_may (A : Nat) (G : List (List P.Q)) (h2 : 2 ≤ A) (hA : A + G.length < 4096) (h : ∀ g ∈ G, (1 ≤ g.length ∧ g.length ≤ 20) ∧ ∀ p ∈ g, p.mayP = true) : ∀ k ∈ kidsOf A G, k.mayK = true := by
  induction G generalizing A with
  | nil => intro k hk; simp [kidsOf] at hk
  | cons g G ih =>
    intro k hk
    simp only [List.length_cons] at hA
    rcases List.mem_cons.1 (show k ∈ kidOf A g :: kidsOf (A + 1) G from hk) with rfl | hk
    · rw [P.Q.mayK_iff]
      have hg := h g (by simp)
      have hs := may_sums g hg.2
      unfold kidOf
      refine ⟨?_, ?_, ?_, ?_, ?_, ?_, ?_⟩ <;> simp only [] <;> omega
    · exact ih (A + 1) (by omega) (by omega) (fun g' hg' => h g' (by simp [hg'])) k hk
theorem innErr_of (A : Nat) (G : List (List P.Q)) (h2 : 2 ≤ A) (hA : A + G.length < 4096) (h1 : 1 ≤ G.length ∧ G.length ≤ 12) (h : ∀ g ∈ G, (1 ≤ g.length ∧ g.length ≤ 20) ∧ ∀ p ∈ g, p.mayP = true) : P.innErr 1 (kidsOf A G) = 0 := by
  unfold P.innErr
  rw [if_pos ⟨by omega, by omega, by rw [kidsOf_length]; exact h1.1, by rw [kidsOf_length]; exact h1.2, List.all_eq_true.2 (kids_may A G h2 hA h)⟩]
/-- The free map's bits. -/
theorem bmB_bit (k r : Nat) (hk : k ≤ 8) (hr : r < 8) : ((UInt8.ofNat (2 ^ k - 1)).toNat / 2 ^ r % 2 == 1) = decide (r < k) := by
  have h : ∀ k : Fin 9, ∀ r : Fin 8, ((UInt8.ofNat (2 ^ k.1 - 1)).toNat / 2 ^ r.1 % 2 == 1) = decide (r.1 < k.1) := by decide
  exact h ⟨k, by omega⟩ ⟨r, hr⟩
theorem bm_bit (nb A i : Nat) (hi : i < 8 * nb) : P.bitAt (bmI nb A) i = decide (i < A) := by
  have hl : i / 8 < (bmI nb A).length := by rw [bmI_length]; omega
  unfold P.bitAt
  rw [List.getD_eq_getElem?_getD, List.getElem?_eq_getElem hl, Option.getD_some]
  simp only [bmI, List.getElem_map, List.getElem_range, bmB]
  rw [bmB_bit _ _ (by omega) (by omega)]
  apply decide_eq_decide.2
  omega
theorem free_of (np A : Nat) (st : P.St) (hA : 2 ≤ A) (h : ∀ m, 0 < st.met m ↔ 2 ≤ m ∧ m < A) : P.freeOk np (bmI ((np + 7) / 8) A) st = true := by
  unfold P.freeOk
  rw [bmI_length, Bool.and_eq_true]
  refine ⟨decide_eq_true rfl, ?_⟩
  rw [List.all_eq_true]
  intro i hi
  rw [bm_bit _ _ _ (List.mem_range.1 hi)]
  have hm := h i
  by_cases h1 : i < A
  · by_cases h2 : i < 2
    · simp [h1, h2]
    · have : 0 < st.met i := hm.2 ⟨by omega, h1⟩
      simp [h1, this]
  · have h2 : ¬ i < 2 := by omega
    have : ¬ 0 < st.met i := fun e => h1 (hm.1 e).2
    simp [h1, h2, this]
end Go.Proofs.YtnjpaanjgbfbaaaGreat
/- The law of chapter 12: what the image that Build leaves opens as. Plain. -/
namespace Go.Proofs.YtnjpaanjgbfbaaaGreat
set_option linter.unusedVariables false
set_option linter.unusedSimpArgs false
open Go.RowKit

set_option maxRecDepth 100000 in
theorem zero_page (np : Nat) (h : 1 < np) : P.pg (List.replicate (np * 256) 0) 1 = List.replicate 256 0 := by
  unfold P.pg
  rw [List.drop_replicate, List.take_replicate]
  congr 1
  omega
set_option maxRecDepth 100000 in
theorem zero_bad : P.sErr (List.replicate 256 0) ≠ 0 := by
  have h : P.openErr (List.replicate 256 0) ≠ 0 := by
    unfold P.openErr
    rw [if_neg (by simp)]
    split
    · omega
    · rw [if_pos (.inl (by decide))]; omega
  rw [(P.sErr_open h).1]
  exact h
/-- The pages that grow lays. -/
def growP (A : Nat) (G : List (List P.Q)) : List (List UInt8) := if G.length = 1 then G.map P.leafB else G.map P.leafB ++ [P.innB 1 (kidsOf A G)]
theorem growI_eq (img : List UInt8) (A : Nat) (G : List (List P.Q)) : growI img A G = layN img A (growP A G) := by
  unfold growI growP
  split <;> rfl
theorem growP_length (A : Nat) (G : List (List P.Q)) : (growP A G).length = if G.length = 1 then 1 else G.length + 1 := by
  unfold growP
  split
  · rename_i h; rw [List.length_map, h]
  · simp
/-- What the groups of a text's pieces are. -/
theorem grp_all (S : List UInt8) (hn : S.length ≤ 150) (G : List (List P.Q)) (h : Grp (psI 0 S) S.length G) (hS : S ≠ []) :
    G.flatten = psI 0 S ∧ (1 ≤ G.length ∧ G.length ≤ 8) ∧ (∀ g ∈ G, (1 ≤ g.length ∧ g.length ≤ 20) ∧ ∀ p ∈ g, p.mayP = true) ∧ ((∀ g ∈ G, 10 ≤ g.length) ∨ G.length = 1) := by
  have hf := h.flat
  rw [List.take_of_length_le (by rw [psI_length]; exact Nat.le_refl _)] at hf
  have hi := h.inv
  rw [psI_length] at hi
  have h0 : 1 ≤ S.length := by
    rcases Nat.eq_zero_or_pos S.length with h | h
    · exact absurd (List.eq_nil_of_length_eq_zero h) hS
    · exact h
  obtain ⟨f1, f2, -⟩ := h.full
  refine ⟨hf, by omega, fun g hg => ⟨f1 g hg, fun p hp => ?_⟩, ?_⟩
  · have hm : p ∈ psI 0 S := by rw [← hf]; exact List.mem_flatten.2 ⟨g, hg, hp⟩
    obtain ⟨j, hj, rfl⟩ := psI_mem S p hm
    exact pcI_may j _ (by omega)
  · rcases f2 with h | ⟨h, -⟩
    · exact .inl h
    · exact .inr h
theorem growP_pages (A : Nat) (G : List (List P.Q)) (h2 : 2 ≤ A) (hA : A + G.length < 4096) (h1 : 1 ≤ G.length ∧ G.length ≤ 12) (h : ∀ g ∈ G, (1 ≤ g.length ∧ g.length ≤ 20) ∧ ∀ p ∈ g, p.mayP = true) : ∀ p ∈ growP A G, p.length = 256 := by
  intro p hp
  have hl : ∀ p ∈ G.map P.leafB, p.length = 256 := by
    intro p hp
    obtain ⟨g, hg, rfl⟩ := List.mem_map.1 hp
    exact leafB_len g (leafErr_of g (h g hg).1 (h g hg).2)
  unfold growP at hp
  split at hp
  · exact hl p hp
  · rcases List.mem_append.1 hp with hp | hp
    · exact hl p hp
    · rw [List.mem_singleton] at hp
      subst hp
      exact innB_len _ _ (innErr_of A G h2 hA h1 h)
/-- The tree, walked. -/
theorem tree_of (I : List UInt8) (np : Nat) (S : List UInt8) (hn : S.length ≤ 150) (hnp : S.length + 13 ≤ np) (hnp2 : np ≤ 4096) (G : List (List P.Q)) (hG : Grp (psI 0 S) S.length G) (hS : S ≠ []) (s : P.Sup)
    (hr : s.r = ((if G.length = 1 then 2 + S.length else 2 + S.length + G.length : Nat) : Int)) (hh : s.h = ((if G.length = 1 then 1 else 2 : Nat) : Int)) (hb : s.b = ((psI 0 S).map (·.c)).sum) (hl : s.l = ((psI 0 S).map (·.d)).sum)
    (ht : ∀ i (hi : i < S.length), P.pg I (2 + i) = P.txtB (txI i (szI S[i]))) (hk : ∀ i (hi : i < (growP (2 + S.length) G).length), P.pg I (2 + S.length + i) = (growP (2 + S.length) G)[i]) :
    ∃ st, P.treeW I np false s P.St.new = some st ∧ st.ps = psI 0 S ∧ ∀ m, 0 < st.met m ↔ 2 ≤ m ∧ m < 2 + S.length + (growP (2 + S.length) G).length := by
  obtain ⟨hf, h1, h2, h3⟩ := grp_all S hn G hG hS
  have hok := okPc_of I np S (by omega) ht
  have hgl := growP_length (2 + S.length) G
  unfold P.treeW
  by_cases hc : G.length = 1
  · rw [if_pos hc] at hr hh hgl
    obtain ⟨g, rfl⟩ : ∃ g, G = [g] := by
      match G, hc with
      | [g], _ => exact ⟨g, rfl⟩
    have hg : g = psI 0 S := by simpa using hf
    have hgm := h2 g (by simp)
    have hb1 := P.leaf_back g (leafErr_of g hgm.1 hgm.2)
    have hk0 := hk 0 (by omega)
    have e0 : (growP (2 + S.length) [g])[0]'(by omega) = P.leafB g := by simp [growP]
    rw [e0, Nat.add_zero] at hk0
    rw [← hk0] at hb1
    obtain ⟨tx, hx⟩ := P.leaf_of I np (2 + S.length) true P.St.new g (by unfold P.free?; exact decide_eq_true ⟨rfl, by omega, by omega⟩) hb1.1 hb1.2 (.inl rfl) (by rw [hg]; exact hok)
      (fun p hp => ⟨fun e => by
        have : p.a.toNat ∈ P.pgs (psI 0 S) := List.mem_map.2 ⟨p, by rw [← hg]; exact hp, rfl⟩
        have := (pgs_psI S _).1 this
        omega, .inl rfl⟩)
    have er : s.r.toNat = 2 + S.length := by omega
    have eh : s.h.toNat - 1 = 0 := by omega
    rw [if_neg (by omega), er, eh, P.below, hx]
    simp only [Option.bind_some]
    rw [if_pos ⟨by rw [hb, hg], by rw [hl, hg]⟩]
    refine ⟨_, rfl, ?_, ?_⟩
    · show [] ++ g = _
      rw [hg]; rfl
    · intro m
      show 0 < (if m ∈ P.pgs g then 4 else if m = 2 + S.length then 3 else 0) ↔ _
      rw [hgl, hg]
      have hm := pgs_psI S m
      by_cases q1 : m ∈ P.pgs (psI 0 S)
      · rw [if_pos q1]
        have := hm.1 q1
        omega
      · rw [if_neg q1]
        have q2 : ¬ (2 ≤ m ∧ m < 2 + S.length) := fun e => q1 (hm.2 e)
        split <;> omega
  · rw [if_neg hc] at hr hh hgl
    have h3' : ∀ g ∈ G, 10 ≤ g.length := by
      rcases h3 with h | h
      · exact h
      · exact absurd h hc
    have hin := innErr_of (2 + S.length) G (by omega) (by omega) ⟨h1.1, by omega⟩ h2
    have hib := P.inn_back 1 _ hin
    have hkI := hk G.length (by omega)
    have eI : (growP (2 + S.length) G)[G.length]'(by omega) = P.innB 1 (kidsOf (2 + S.length) G) := by
      unfold growP
      simp only [if_neg hc]
      rw [List.getElem_append_right (by simp)]
      simp
    rw [eI] at hkI
    rw [← hkI] at hib
    obtain ⟨b1, b2, b3⟩ := hib
    obtain ⟨tx, sp, hx⟩ := P.fold_kids I np G (2 + S.length) ⟨0, 0, 0⟩ (P.St.new.hit (2 + S.length + G.length) 2) (by omega) (by omega)
      (fun i hi => by
        have hg := h2 G[i] (List.getElem_mem hi)
        have hb1 := P.leaf_back G[i] (leafErr_of _ hg.1 hg.2)
        have hki := hk i (by omega)
        have ei : (growP (2 + S.length) G)[i]'(by omega) = P.leafB G[i] := by
          unfold growP
          simp only [if_neg hc]
          rw [List.getElem_append_left (by simpa using hi)]
          simp
        rw [ei] at hki
        rw [hki]
        exact ⟨hb1.1, hb1.2, h3' _ (List.getElem_mem hi)⟩)
      (fun m q1 q2 => by
        show (if m = 2 + S.length + G.length then 2 else 0) = 0
        rw [if_neg (by omega)])
      (fun p hp => by
        rw [hf] at hp
        have : p.a.toNat ∈ P.pgs (psI 0 S) := List.mem_map.2 ⟨p, hp, rfl⟩
        have := (pgs_psI S _).1 this
        refine ⟨hok p hp, this.2, .inl ?_⟩
        show (if p.a.toNat = 2 + S.length + G.length then 2 else 0) = 0
        rw [if_neg (by omega)])
    have er : s.r.toNat = 2 + S.length + G.length := by omega
    have eh : s.h.toNat - 1 = 0 + 1 := by omega
    rw [if_neg (by omega), er, eh, P.below]
    rw [if_pos ⟨by unfold P.free?; exact decide_eq_true ⟨rfl, by omega, by omega⟩, b1, by rw [b3]; rfl, by rw [b2, kidsOf_length]; omega, .inl rfl⟩, b2, kids_eq, hx]
    simp only [Option.bind_some]
    rw [hf, if_pos ⟨by rw [hb]; omega, by rw [hl]; omega⟩]
    refine ⟨_, rfl, ?_, ?_⟩
    · show [] ++ psI 0 S = _
      rfl
    · intro m
      show 0 < (if m ∈ P.pgs (psI 0 S) then 4 else if 2 + S.length ≤ m ∧ m < 2 + S.length + G.length then 3 else if m = 2 + S.length + G.length then 2 else 0) ↔ _
      rw [hgl]
      have hm := pgs_psI S m
      by_cases q1 : m ∈ P.pgs (psI 0 S)
      · rw [if_pos q1]
        have := hm.1 q1
        omega
      · rw [if_neg q1]
        have q2 : ¬ (2 ≤ m ∧ m < 2 + S.length) := fun e => q1 (hm.2 e)
        split
        · omega
        · split <;> omega
/-- A chain that was laid, walked. -/
theorem chain_walk (I : List UInt8) (np : Nat) (b : List UInt8) (A : Nat) (hb : b.length ≤ 1048576) (h2 : 2 ≤ A) (hA : A ≤ 2000) (hN : P.needN b.length ≤ 100) (hnp : A + P.needN b.length ≤ np)
    (h : ∀ i, i < P.needN b.length → P.pg I (A + i) = P.cutPage b (P.lst (A : Int) 1 (P.needN b.length)) i) (st : P.St) (hm : ∀ m, A ≤ m → m < A + P.needN b.length → st.met m = 0) :
    P.chainW I np (np + 1) (if P.needN b.length = 0 then 0 else A) [] st = some (b, ⟨fun m => if A ≤ m ∧ m < A + P.needN b.length then 5 else st.met m, st.ps, st.tx⟩) := by
  have hfit := P.lst_fits b (A : Int) 1 (P.needN b.length) (by omega) (by omega) (by omega) (by omega) rfl hN
  have hc := P.chain_of I np b A (P.needN b.length) rfl hb h2 hnp (fun i hi => by
    have hp := P.cut_part b _ hfit i (by rw [P.lst_length]; exact hi)
    rw [P.lst_next] at hp
    rw [h i hi]
    refine ⟨hp.1, hp.2.1, hp.2.2.trans ?_⟩
    split <;> omega) (P.needN b.length) 0 (np + 1) st (by omega) (by omega) (fun m q1 q2 => hm m (by omega) q2)
  simpa using hc
theorem bld_opens (np : Nat) (S t : List UInt8) (gen : Int) (R H A2 : Nat) (img : List UInt8) (hg : -9223372036854775808 ≤ gen ∧ gen ≤ 9223372036854775807) (hnS : S.length ≤ 150) (hnT : t.length ≤ 1000) (hnp : S.length + 13 ≤ np) (hnq : S.length + 11 + P.needN t.length + P.needN ((np + 7) / 8) ≤ np) (hnp2 : np ≤ 4096)
    (h : growR np S R H A2 img) (hA : 2 ≤ A2 ∧ A2 ≤ 2 + S.length + 9) :
    ∃ st A4, opens np (bldI np gen R H S t A2 img) = some (supI np gen R H S t A2, 0, t, st) ∧ walkSpec (specC np (bldI np gen R H S t A2 img) (supI np gen R H S t A2)) = some (t, st) ∧ st.ps = psI 0 S ∧ (∀ m, 0 < st.met m ↔ 2 ≤ m ∧ m < A4) ∧ 2 + S.length + 1 ≤ A4 ∧ A4 ≤ np := by
  have hchk := supI_chk np S t gen R H A2 img hg hnS hnT hnp (by have h9 : 1 ≤ P.needN ((np + 7) / 8) := (by unfold P.needN; omega); omega) hnp2 h hA
  have hN1 : P.needN t.length ≤ 5 := by unfold P.needN; omega
  have hN2 : P.needN ((np + 7) / 8) ≤ 3 ∧ 1 ≤ P.needN ((np + 7) / 8) := by unfold P.needN; omega
  obtain ⟨K, hK1, hK2, hK3⟩ : ∃ K, (∀ p ∈ K, p.length = 256) ∧ A2 = 2 + S.length + K.length ∧ img = layN (textI np S) (2 + S.length) K := by
    rcases h with ⟨rfl, rfl, rfl, rfl, rfl⟩ | ⟨hne, G, hG, rfl, rfl, rfl, rfl⟩
    · exact ⟨[], by simp, rfl, rfl⟩
    · obtain ⟨hf, h1, h2, h3⟩ := grp_all S hnS G hG hne
      refine ⟨growP (2 + S.length) G, growP_pages _ _ (by omega) (by omega) ⟨h1.1, by omega⟩ h2, ?_, growI_eq _ _ _⟩
      rw [growP_length]
      split <;> omega
  obtain ⟨bm, hbm⟩ : ∃ bm, bm = bmI ((np + 7) / 8) (A2 + P.needN t.length + P.needN ((np + 7) / 8)) := ⟨_, rfl⟩
  have hbl : bm.length = (np + 7) / 8 := by rw [hbm, bmI_length]
  obtain ⟨I, hI⟩ : ∃ I, I = bldI np gen R H S t A2 img := ⟨_, rfl⟩
  have hIe : I = layAt (layN (layN (layN (layN (List.replicate (np * 256) 0) 2 ((txsI 0 S).map P.txtB)) (2 + S.length) K) A2 (P.cutTo t (P.lst (A2 : Int) 1 (P.needN t.length)) (P.needN t.length))) (A2 + P.needN t.length) (P.cutTo bm (P.lst ((A2 + P.needN t.length : Nat) : Int) 1 (P.needN bm.length)) (P.needN bm.length))) (0 * 256) (supI np gen R H S t A2).page := by
    rw [hI]
    unfold bldI blobI
    rw [← hbm, hK3]
    rfl
  have htl : (txsI 0 S).length = S.length := txsI_length 0 S
  have hpgs := four_rows np _ _ _ _ _ _ (2 + S.length) A2 (A2 + P.needN t.length) (A2 + P.needN t.length + P.needN bm.length) (by simp; omega)
    (fun p hp => by
      obtain ⟨x, hx, rfl⟩ := List.mem_map.1 hp
      obtain ⟨j, hj, rfl⟩ := List.getElem_of_mem hx
      rw [htl] at hj
      have e := txsI_get 0 S j hj
      rw [List.getElem?_eq_getElem (by rw [htl]; exact hj)] at e
      rw [Option.some.inj e]
      exact txtB_len _ (txI_ok _ _ (szI_ok _)))
    hK1 (cutTo_page _ _ _) (cutTo_page _ _ _) (P.Sup.page_length hchk) (by rw [List.length_map, htl]) (by omega) (by rw [P.cutTo_length]) (by rw [P.cutTo_length]) (by rw [hbl]; omega) I hIe
  obtain ⟨g1, g2, g3, g4, g5, g6, g7⟩ := hpgs
  have ht : ∀ i (hi : i < S.length), P.pg I (2 + i) = P.txtB (txI i (szI S[i])) := by
    intro i hi
    rw [g1 i (by rw [List.length_map, htl]; exact hi), List.getElem_map]
    have e := txsI_get 0 S i hi
    rw [List.getElem?_eq_getElem (by rw [htl]; exact hi), Nat.zero_add] at e
    rw [Option.some.inj e]
  have hc1 : ∀ i, i < P.needN t.length → P.pg I (A2 + i) = P.cutPage t (P.lst (A2 : Int) 1 (P.needN t.length)) i := by
    intro i hi
    rw [g3 i (by rw [P.cutTo_length]; exact hi), P.cutTo_get]
  have hc2 : ∀ i, i < P.needN bm.length → P.pg I (A2 + P.needN t.length + i) = P.cutPage bm (P.lst ((A2 + P.needN t.length : Nat) : Int) 1 (P.needN bm.length)) i := by
    intro i hi
    rw [g4 i (by rw [P.cutTo_length]; exact hi), P.cutTo_get]
  have hp1 : P.pg I 1 = List.replicate 256 0 := by rw [g6 (by omega), zero_page np (by omega)]
  have htree : ∃ st, P.treeW I np false (supI np gen R H S t A2) P.St.new = some st ∧ st.ps = psI 0 S ∧ ∀ m, 0 < st.met m ↔ 2 ≤ m ∧ m < A2 := by
    rcases h with ⟨rfl, rfl, rfl, rfl, rfl⟩ | ⟨hne, G, hG, rfl, rfl, hA2, rfl⟩
    · refine ⟨P.St.new, ?_, rfl, ?_⟩
      · unfold P.treeW
        rw [if_pos (show (supI np gen 0 0 [] t 2).r = 0 from rfl)]
      · intro m
        show 0 < 0 ↔ _
        omega
    · have hKe : (growP (2 + S.length) G).length = K.length := by
        rw [growP_length]
        split at hA2 <;> rename_i hc
        · rw [if_pos hc]; omega
        · rw [if_neg hc]; omega
      obtain ⟨hf, q1, q2, q3⟩ := grp_all S hnS G hG hne
      obtain ⟨st, s1, s2, s3⟩ := tree_of I np S hnS hnp hnp2 G hG hne (supI np gen _ _ S t A2) rfl rfl rfl rfl ht (fun i hi => by
        have hZ : (textI np S).length = 256 * np := by
          unfold textI
          exact layN_length _ np 2 _ (by simp; omega) (fun p hp => by
            obtain ⟨x, hx, rfl⟩ := List.mem_map.1 hp
            obtain ⟨j, hj, rfl⟩ := List.getElem_of_mem hx
            rw [htl] at hj
            have e := txsI_get 0 S j hj
            rw [List.getElem?_eq_getElem (by rw [htl]; exact hj)] at e
            rw [Option.some.inj e]
            exact txtB_len _ (txI_ok _ _ (szI_ok _))) (by rw [List.length_map, htl]; omega)
        have hKp := growP_pages (2 + S.length) G (by omega) (by omega) ⟨q1.1, by omega⟩ q2
        have a1 := lay_at (textI np S) np (2 + S.length) K hZ hK1 (by omega) i (by omega)
        have a2 := lay_at (textI np S) np (2 + S.length) (growP (2 + S.length) G) hZ hKp (by omega) i hi
        rw [g2 i (by omega), ← a1, ← a2, ← hK3, growI_eq])
      exact ⟨st, s1, s2, fun m => by rw [s3 m, hKe, ← hK2]⟩
  obtain ⟨st1, e1, e2, e3⟩ := htree
  have z1 : ∀ m, ¬ (2 ≤ m ∧ m < A2) → st1.met m = 0 := fun m hm => by
    have := e3 m
    rcases Nat.eq_zero_or_pos (st1.met m) with h | h
    · exact h
    · exact absurd (this.1 h) hm
  have w1 := chain_walk I np t A2 (by omega) hA.1 (by omega) (by omega) (by omega) hc1 st1 (fun m q1 q2 => z1 m (by omega))
  obtain ⟨st2, hst2⟩ : ∃ st2 : P.St, st2 = ⟨fun m => if A2 ≤ m ∧ m < A2 + P.needN t.length then 5 else st1.met m, st1.ps, st1.tx⟩ := ⟨_, rfl⟩
  rw [← hst2] at w1
  have w2 := chain_walk I np bm (A2 + P.needN t.length) (by omega) (by omega) (by omega) (by rw [hbl]; omega) (by rw [hbl]; omega) hc2 st2 (fun m q1 q2 => by
    rw [hst2]
    show (if A2 ≤ m ∧ m < A2 + P.needN t.length then 5 else st1.met m) = 0
    rw [if_neg (by omega)]
    exact z1 m (by omega))
  obtain ⟨st3, hst3⟩ : ∃ st3 : P.St, st3 = ⟨fun m => if A2 + P.needN t.length ≤ m ∧ m < A2 + P.needN t.length + P.needN bm.length then 5 else st2.met m, st2.ps, st2.tx⟩ := ⟨_, rfl⟩
  rw [← hst3] at w2
  have m3 : ∀ m, 0 < st3.met m ↔ 2 ≤ m ∧ m < A2 + P.needN t.length + P.needN bm.length := by
    intro m
    have := e3 m
    rw [hst3, hst2]
    show 0 < (if A2 + P.needN t.length ≤ m ∧ m < A2 + P.needN t.length + P.needN bm.length then 5 else if A2 ≤ m ∧ m < A2 + P.needN t.length then 5 else st1.met m) ↔ _
    split
    · omega
    · split
      · omega
      · rw [this]; omega
  have hs : (supI np gen R H S t A2).s.toNat = if P.needN t.length = 0 then 0 else A2 := by
    show (if t.length = 0 then (0 : Int) else (A2 : Int)).toNat = _
    by_cases h0 : t.length = 0
    · rw [if_pos h0, if_pos (by rw [h0]; rfl)]; rfl
    · rw [if_neg h0, if_neg (by unfold P.needN; omega)]; omega
  have hf : (supI np gen R H S t A2).f.toNat = if P.needN bm.length = 0 then 0 else A2 + P.needN t.length := by
    rw [hbl, if_neg (by omega)]
    show ((A2 + P.needN t.length : Nat) : Int).toNat = _
    omega
  have hfr : P.freeOk np bm st3 = true := by
    rw [hbm, hbl] at *
    exact free_of np _ st3 (by omega) m3
  have hwalk : walkSpec (specC np I (supI np gen R H S t A2)) = some (t, st3) := by
    unfold walkSpec specC freeW
    simp only
    rw [if_pos (show (supI np gen R H S t A2).p = (np : Int) from rfl), e1]
    simp only [Option.bind_some]
    rw [hs, w1]
    simp only [Option.bind_some]
    rw [hf, w2]
    simp only [Option.bind_some]
    rw [if_pos hfr]
    rfl
  have hsp := P.sErr_page hchk
  have hpk := P.pick_a (P.pg I 0) (P.pg I 1) ⟨by rw [g5]; exact hsp.1, .inl (by rw [hp1]; exact zero_bad)⟩
  refine ⟨st3, A2 + P.needN t.length + P.needN bm.length, ?_, ?_, ?_, m3, by rw [hbl]; omega, by rw [hbl]; omega⟩
  · rw [← hI]
    unfold opens
    rw [if_pos hpk.2.2, hpk.1, hpk.2.1, g5, hsp.2, hwalk]
    rfl
  · rw [← hI]; exact hwalk
  · rw [hst3, hst2]; exact e2
end Go.Proofs.YtnjpaanjgbfbaaaGreat
