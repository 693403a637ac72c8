/- Pages of cells. Plain law. -/
import Derived.Test.YtpdmhnppibfmkaaCel
namespace Go.Proofs.Ytpdmhnppibfmkaa.P
/-- What a page of cells may be. -/
def leafErr (l : List Q) : Int := if 1 ≤ l.length ∧ l.length ≤ 20 ∧ l.all Q.mayP = true then 0 else 1
def leafB (l : List Q) : List UInt8 := if leafErr l = 0 then page 3 0 l.length (encAll Q.encP l) else []
def innErr (v : Int) (l : List Q) : Int := if 1 ≤ v ∧ v ≤ 32 ∧ 1 ≤ l.length ∧ l.length ≤ 12 ∧ l.all Q.mayK = true then 0 else 1
def innB (v : Int) (l : List Q) : List UInt8 := if innErr v l = 0 then page 2 v.toNat l.length (encAll Q.encK l) else []
def txtErr (t : List UInt8) : Int := if 1 ≤ t.length ∧ t.length ≤ 248 then 0 else 1
def txtB (t : List UInt8) : List UInt8 := if txtErr t = 0 then page 4 0 t.length t else []
/-- What the bytes of a page say. -/
def zeros (l : List UInt8) : Bool := l.all (· == 0)
def goodP (b : List UInt8) : Prop := openKind b = 3 ∧ openLevel b = 0 ∧ 1 ≤ openCount b ∧ openCount b ≤ 20 ∧ zeros ((openBody b).drop (12 * openCount b)) = true ∧ ∀ i, i < openCount b → okP (chunk 12 (openBody b) i) = true
def goodK (b : List UInt8) : Prop := openKind b = 2 ∧ 1 ≤ openLevel b ∧ openLevel b ≤ 32 ∧ 1 ≤ openCount b ∧ openCount b ≤ 12 ∧ zeros ((openBody b).drop (20 * openCount b)) = true ∧ ∀ i, i < openCount b → okK (chunk 20 (openBody b) i) = true
def goodT (b : List UInt8) : Prop := openKind b = 4 ∧ openLevel b = 0 ∧ 1 ≤ openCount b ∧ openCount b ≤ 248 ∧ zeros ((openBody b).drop (openCount b)) = true
instance (b : List UInt8) : Decidable (goodP b) := by unfold goodP; infer_instance
instance (b : List UInt8) : Decidable (goodK b) := by unfold goodK; infer_instance
instance (b : List UInt8) : Decidable (goodT b) := by unfold goodT; infer_instance
def rdErr (good : List UInt8 → Prop) [DecidablePred good] (b : List UInt8) : Int := if openErr b ≠ 0 then openErr b else if good b then 0 else 4
def pcErr (b : List UInt8) : Int := if openErr b ≠ 0 then openErr b else if goodP b then 0 else 4
def pcL (b : List UInt8) : List Q := if pcErr b = 0 then cellsOf decP 12 (openBody b) (openCount b) else []
def kdErr (b : List UInt8) : Int := if openErr b ≠ 0 then openErr b else if goodK b then 0 else 4
def kdL (b : List UInt8) : List Q := if kdErr b = 0 then cellsOf decK 20 (openBody b) (openCount b) else []
def kdV (b : List UInt8) : Int := if kdErr b = 0 then openLevel b else 0
def txErr (b : List UInt8) : Int := if openErr b ≠ 0 then openErr b else if goodT b then 0 else 4
def txL (b : List UInt8) : List UInt8 := if txErr b = 0 then (openBody b).take (openCount b) else []
theorem seal_leaf (l : List Q) (h : leafErr l = 0) : sealErr 3 0 l.length (encAll Q.encP l).length = 0 := by
  have hl : 1 ≤ l.length ∧ l.length ≤ 20 ∧ l.all Q.mayP = true := by
    unfold leafErr at h
    split at h
    · assumption
    · omega
  rw [encAll_length _ 12 Q.encP_length]
  unfold sealErr
  rw [if_neg (by omega), if_neg (by omega)]
theorem seal_inn (v : Int) (l : List Q) (h : innErr v l = 0) : sealErr 2 v l.length (encAll Q.encK l).length = 0 := by
  have hl : 1 ≤ v ∧ v ≤ 32 ∧ 1 ≤ l.length ∧ l.length ≤ 12 ∧ l.all Q.mayK = true := by
    unfold innErr at h
    split at h
    · assumption
    · omega
  rw [encAll_length _ 20 Q.encK_length]
  unfold sealErr
  rw [if_neg (by omega), if_neg (by omega)]
theorem seal_txt (t : List UInt8) (h : txtErr t = 0) : sealErr 4 0 t.length t.length = 0 := by
  have hl : 1 ≤ t.length ∧ t.length ≤ 248 := by
    unfold txtErr at h
    split at h
    · assumption
    · omega
  unfold sealErr
  rw [if_neg (by omega), if_neg (by omega)]
theorem zeros_rep (n : Nat) : zeros (List.replicate n 0) = true := by simp [zeros]

theorem leaf_back (l : List Q) (h : leafErr l = 0) : pcErr (leafB l) = 0 ∧ pcL (leafB l) = l := by
  have hs := seal_leaf l h
  have hl : 1 ≤ l.length ∧ l.length ≤ 20 ∧ l.all Q.mayP = true := by
    unfold leafErr at h
    split at h
    · assumption
    · omega
  obtain ⟨o1, o2, o3, o4, o5⟩ := page_open hs
  have hlen := encAll_length _ 12 Q.encP_length l
  simp only [Int.toNat_natCast] at o1 o2 o3 o4 o5
  have hB : leafB l = page (Int.toNat 3) (Int.toNat 0) l.length (encAll Q.encP l) := by unfold leafB; rw [if_pos h]; rfl
  rw [hB]
  have hmay : ∀ x ∈ l, x.mayP = true := by simpa using hl.2.2
  have hg : goodP (page (Int.toNat 3) (Int.toNat 0) l.length (encAll Q.encP l)) := by
    unfold goodP
    rw [o2, o3, o4, o5]
    refine ⟨rfl, rfl, by omega, by omega, ?_, fun i hi => ?_⟩
    · rw [← hlen, List.drop_left]; exact zeros_rep _
    · rw [chunk_enc _ 12 Q.encP_length l _ i hi]
      have hd := decP_enc l[i] (hmay _ (List.getElem_mem hi)) []
      rw [List.append_nil] at hd
      unfold okP
      rw [hd.1, hmay _ (List.getElem_mem hi), hd.2]
      rfl
  have he : pcErr (page (Int.toNat 3) (Int.toNat 0) l.length (encAll Q.encP l)) = 0 := by
    unfold pcErr
    rw [if_neg (by simpa using o1), if_pos hg]
  refine ⟨he, ?_⟩
  unfold pcL
  rw [if_pos he, o4, o5]
  exact cellsOf_enc decP Q.encP 12 Q.encP_length l (fun x hx => by have := decP_enc x (hmay x hx) []; rw [List.append_nil] at this; exact this.1) _
theorem inn_back (v : Int) (l : List Q) (h : innErr v l = 0) : kdErr (innB v l) = 0 ∧ kdL (innB v l) = l ∧ kdV (innB v l) = v := by
  have hs := seal_inn v l h
  have hl : 1 ≤ v ∧ v ≤ 32 ∧ 1 ≤ l.length ∧ l.length ≤ 12 ∧ l.all Q.mayK = true := by
    unfold innErr at h
    split at h
    · assumption
    · omega
  obtain ⟨o1, o2, o3, o4, o5⟩ := page_open hs
  have hlen := encAll_length _ 20 Q.encK_length l
  simp only [Int.toNat_natCast] at o1 o2 o3 o4 o5
  have hB : innB v l = page (Int.toNat 2) v.toNat l.length (encAll Q.encK l) := by unfold innB; rw [if_pos h]; rfl
  rw [hB]
  have hmay : ∀ x ∈ l, x.mayK = true := by simpa using hl.2.2.2.2
  have hg : goodK (page (Int.toNat 2) v.toNat l.length (encAll Q.encK l)) := by
    unfold goodK
    rw [o2, o3, o4, o5]
    refine ⟨rfl, by omega, by omega, by omega, by omega, ?_, fun i hi => ?_⟩
    · rw [← hlen, List.drop_left]; exact zeros_rep _
    · rw [chunk_enc _ 20 Q.encK_length l _ i hi]
      have hd := decK_enc l[i] (hmay _ (List.getElem_mem hi)) []
      rw [List.append_nil] at hd
      unfold okK
      rw [hd, hmay _ (List.getElem_mem hi)]
  have he : kdErr (page (Int.toNat 2) v.toNat l.length (encAll Q.encK l)) = 0 := by
    unfold kdErr
    rw [if_neg (by simpa using o1), if_pos hg]
  refine ⟨he, ?_, ?_⟩
  · unfold kdL
    rw [if_pos he, o4, o5]
    exact cellsOf_enc decK Q.encK 20 Q.encK_length l (fun x hx => by have := decK_enc x (hmay x hx) []; rw [List.append_nil] at this; exact this) _
  · unfold kdV
    rw [if_pos he, o3]
    omega
theorem txt_back (t : List UInt8) (h : txtErr t = 0) : txErr (txtB t) = 0 ∧ txL (txtB t) = t := by
  have hs := seal_txt t h
  have hl : 1 ≤ t.length ∧ t.length ≤ 248 := by
    unfold txtErr at h
    split at h
    · assumption
    · omega
  obtain ⟨o1, o2, o3, o4, o5⟩ := page_open hs
  simp only [Int.toNat_natCast] at o1 o2 o3 o4 o5
  have hB : txtB t = page (Int.toNat 4) (Int.toNat 0) t.length t := by unfold txtB; rw [if_pos h]; rfl
  rw [hB]
  have hg : goodT (page (Int.toNat 4) (Int.toNat 0) t.length t) := by
    unfold goodT
    rw [o2, o3, o4, o5]
    exact ⟨rfl, rfl, by omega, by omega, by rw [List.drop_left]; exact zeros_rep _⟩
  have he : txErr (page (Int.toNat 4) (Int.toNat 0) t.length t) = 0 := by
    unfold txErr
    rw [if_neg (by simpa using o1), if_pos hg]
  refine ⟨he, ?_⟩
  unfold txL
  rw [if_pos he, o4, o5, List.take_left]
end Go.Proofs.Ytpdmhnppibfmkaa.P
