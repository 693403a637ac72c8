/- The walk of chapter 21: All. -/
import Derived.Test.YtleicgigkbfnbaaReQ
namespace Go.Proofs.Ytleicgigkbfnbaa
set_option linter.unusedVariables false
set_option linter.unusedSimpArgs false
open Go.RowKit Go.Maps
variable {A : Nat → Prop}

abbrev RX := Nat × Bool × List UInt8
theorem regsT : SlT 34 28 3 32 := ⟨Try.underlying34, ⟨.agg #[.int .u8 0, .bool false, .slice none 0 0], by kernel_rfl, rfl⟩, by omega⟩
def orC (L : List RX) (us : List Value) : List Value := (List.zipWith (fun x u => [.int .u8 (x.1 : Nat), .bool x.2.1, u]) L us).flatten
/-- v is a row of registers of the call's own, from block n on. -/
def OR (w : World) (n : Nat) (v : Value) (L : List RX) : Prop :=
  ∃ us : List Value, OV w n 28 3 v L.length (orC L us) ∧ us.length = L.length ∧ ∀ (i : Nat) (u : Value) (x : RX), us[i]? = some u → L[i]? = some x → OB w n u x.2.2
theorem OR.nil (w : World) (n : Nat) : OR w n (.slice none 0 0) [] := ⟨[], OV.nil _ _ _ _, rfl, fun i u x h => by simp at h⟩
theorem orC_snoc (L : List RX) (us : List Value) (h : us.length = L.length) (x : RX) (u : Value) : orC (L ++ [x]) (us ++ [u]) = orC L us ++ [.int .u8 (x.1 : Nat), .bool x.2.1, u] := by
  unfold orC
  rw [List.zipWith_append (by omega)]
  simp
theorem OVr.cells {w : World} {n : Nat} {t : TypeId} {s : Nat} {v : Value} {m : Nat} {l : List Value} (h : OV w n t s v m l) (k : Nat) (hk : v.ownBlock = some k) : n ≤ k ∧ ∃ cur, w.heap[k]? = some (.cells cur t (0, 0)) := by
  rcases h.2 with ⟨rfl, _⟩ | ⟨g, cap, cur, rfl, hb, hg, _⟩
  · simp [Value.ownBlock] at hk
  · simp [Value.ownBlock] at hk
    subst hk
    exact ⟨hb, cur, hg⟩
/-- One more. -/
theorem OR.snoc {w w8 w9 : World} {n : Nat} {v v9 u : Value} {L : List RX} {us : List Value} {x : RX} (h1 : OV w n 28 3 v L.length (orC L us)) (h2 : us.length = L.length) (h3 : ∀ (i : Nat) (u : Value) (x : RX), us[i]? = some u → L[i]? = some x → OB w n u x.2.2)
    (hb8 : Below w.heap.size w w8) (hu : OB w8 n u x.2.2) (h9 : OV w9 n 28 3 v9 (L.length + 1) (orC L us ++ [.int .u8 (x.1 : Nat), .bool x.2.1, u])) (hg : w8.grownBy w9 v.ownBlock) : OR w9 n v9 (L ++ [x]) := by
  have hk : ∀ u c, OB w8 n u c → OB w9 n u c := fun u c h => OBr.kept h hg (fun r e => .inr fun cur hcur => by
    obtain ⟨-, cur', hc'⟩ := OVr.cells h1 r e
    rw [(hb8.block _ (lt_of_block hc')).trans hc'] at hcur
    simp at hcur)
  refine ⟨us ++ [u], ?_, by simp [h2], ?_⟩
  · rw [orC_snoc _ _ h2, List.length_append]
    exact h9
  · intro i u' x' hu' hx'
    rcases Nat.lt_or_ge i L.length with hi | hi
    · rw [List.getElem?_append_left (by omega)] at hu' hx'
      exact hk _ _ ((h3 i u' x' hu' hx').below hb8)
    · rw [List.getElem?_append_right (by omega)] at hu' hx'
      rw [h2] at hu'
      rcases hj : i - L.length with _ | j
      · rw [hj] at hu' hx'
        simp at hu' hx'
        subst hu' hx'
        exact hk _ _ hu
      · rw [hj] at hu'
        simp at hu'
theorem OR.form {w : World} {n : Nat} {v : Value} {L : List RX} (h : OR w n v L) : ∃ a c, v = .slice a L.length c := by
  obtain ⟨us, h1, -⟩ := h
  obtain ⟨a, c, h2, -⟩ := h1.form
  exact ⟨a, c, h2⟩
theorem OR.below {w w' : World} {n : Nat} {v : Value} {L : List RX} (h : OR w n v L) (hb : Below w.heap.size w w') : OR w' n v L := by
  obtain ⟨us, h1, h2, h3⟩ := h
  exact ⟨us, h1.below hb, h2, fun i u x a b => (h3 i u x a b).below hb⟩
theorem OR.mono {w : World} {n n' : Nat} {v : Value} {L : List RX} (h : OR w n v L) (hn : n' ≤ n) : OR w n' v L := by
  obtain ⟨us, h1, h2, h3⟩ := h
  exact ⟨us, h1.mono hn, h2, fun i u x a b => (h3 i u x a b).mono hn⟩
/-- Names under which a register may lie. -/
def Own (M : RM) : Prop := ∀ k, k < 256 → M k ≠ none → k ≠ 34 ∧ sm k = k
theorem Own.gk {M : RM} (h : Own M) {k nm : Nat} (hk : k < 256) (hM : M k ≠ none) : gk nm k = k := by
  obtain ⟨h1, h2⟩ := h k hk hM
  unfold Go.Proofs.Ytleicgigkbfnbaa.gk
  rw [if_neg h1, h2]
def allL (M : RM) (ts : List UInt8) : List RX := ts.map fun x => (x.toNat, (M x.toNat).getD (false, []))
theorem RegIs.keys {w : World} {p b c nm : Nat} {M : RM} (h : RegIs A w p b c M nm) : ∃ D n, w.ownsMap Try.prog 5 hv b n D ∧ n ≤ c ∧ ∀ ks : List UInt8, (∀ x : UInt8, x ∈ ks ↔ has D (kl x.toNat) = true) ↔ ∀ x : UInt8, x ∈ ks ↔ (M x.toNat).isSome = true := by
  obtain ⟨-, -, -, V, n, ⟨D, h1, h2⟩, h3, h4⟩ := h
  refine ⟨D, n, h1, h3, fun ks => forall_congr' fun x => ?_⟩
  have hs := h2 x.toNat x.toNat_lt
  have hh := h4 x.toNat x.toNat_lt
  have e : has D (kl x.toNat) = (M x.toNat).isSome := by
    rcases hM : M x.toNat with _ | ⟨ln, t⟩
    · rw [hM] at hh
      rw [show V x.toNat = none from hh] at hs
      exact hs.1
    · rw [hM] at hh
      obtain ⟨a, m, cp, hV, -⟩ := hh
      rw [hV] at hs
      exact hs.1
  rw [e]
set_option maxRecDepth 100000 in
set_option maxHeartbeats 1600000 in
theorem all_any (K : Nat) (hS : SortsB K) (hK6 : K ≤ 256) (p b c nm : Nat) (M : RM) (w : World) (h : RegIs A w p b c M nm) (hc : c ≤ 1000000) (hO : Own M) (hK : ∀ ks, KeysOf M ks → ks.length ≤ K) :
    Calls Try.prog 15 #[.pointer (some ⟨p, 0, none⟩)] w fun e w' => ∃ v ts, e = .returned v ∧ KeysOf M ts ∧ ts.Pairwise (· ≤ ·) ∧ OR w' w.heap.size v (allL M ts) ∧ Below w.heap.size w w' := by
  have HMA := Lib.hid (fun w (h : RegIs A w p b c M nm) => made_any p b c nm M w h)
  have H := Lib.hid h
  have g := cell_blk h.1
  have hlt := h.lt
  obtain ⟨D, n, hown, hnc, hkeys⟩ := h.keys
  obtain ⟨wk, hwk⟩ : ∃ wk, wk = w.alloc (.cells #[.map (some b)] 48) := ⟨_, rfl⟩
  have hbk : Below w.heap.size w wk := by rw [hwk]; exact (Below.refl _ w).alloc (Nat.le_refl _) _
  have hkk : wk.heap[w.heap.size]? = some (.cells #[.map (some b)] 48 (0, 0)) := by rw [hwk]; exact alloc_new _ _ _ rfl
  have hownk : wk.ownsMap Try.prog 5 hv b n D := hown.kept (row := none) ⟨hbk.os, hbk.tape, hbk.output, hbk.size, fun i hi _ => hbk.block i hi⟩ (by simp)
  have hso := sorted_any K hS 3 w.heap.size b n D wk (lt_of_block hkk) (cell_blk hkk 0) hownk (by omega) (fun ks hk => hK ks ⟨hk.1, (hkeys ks).1 hk.2⟩)
  have HSO := Lib.hid hso
  have HKE := Lib.hid (callsIn_wide.1 (keys_any 1 (some b) w))
  rw [← hwk] at HKE
  have HBK := Lib.hid hbk
  have HKEYS := Lib.hid hkeys
  have HOW := Lib.hid hO
  have HLK := Lib.hid hK
  clear h hS hK hown hownk hso hbk hkk hwk hkeys hO
  go_enter Try.func15, Try.ntmps15
  go_wp2_with fail
  refine (HMA.out _ H.out).mono ?_
  rintro e w1 ⟨rfl, rfl⟩
  go_wp2_with fail
  refine HKE.out.mono ?_
  rintro e w2 ⟨rfl, rfl⟩
  go_wp2_with fail
  refine HSO.out.mono ?_
  rintro e w3 ⟨vt, ts, rfl, hts, hpw, hot, hb3⟩
  have hks : KeysOf M ts := ⟨hts.1, (HKEYS.out ts).1 hts.2⟩
  obtain ⟨at_, ct, rfl, hrt, -⟩ := hot.form
  have hb13 : Below w1.heap.size w1 w3 := HBK.out.trans (hb3.mono HBK.out.size)
  have H3 := Lib.hid (H.out.below hb13)
  have HRT := Lib.hid hrt
  have HPW := Lib.hid hpw
  have HKS := Lib.hid hks
  have HB13 := Lib.hid hb13
  have hl256 : ts.length ≤ 256 := Nat.le_trans (HLK.out ts hks) hK6
  obtain ⟨tn, htn⟩ : ∃ tn, tn = ts.length := ⟨_, rfl⟩
  rw [← htn] at hl256 HRT ⊢
  have HTN := Lib.hid htn
  clear hts hot hrt hb3 hpw hks hb13 g htn
  go_wp2
  go_loopw [3, 18] (fun v i wr => ∃ j : Nat, j ≤ tn ∧ i = .int .i64 j ∧ (∃ a n c, v = .slice a n c) ∧ OR wr w3.heap.size v (allL M (ts.take j)) ∧ Below w3.heap.size w3 wr) (fun v i _ => tn - (intOf i).toNat)
  case atStart => exact ⟨0, by omega, rfl, ⟨_, _, _, rfl⟩, OR.nil _ _, Below.refl _ _⟩
  case round =>
    obtain ⟨j, hj, rfl, ⟨va, vn, vc, rfl⟩, hor, hbr⟩ := hrel
    by_cases hlt2 : j < tn
    · obtain ⟨q0, rfl, hq0⟩ := (HRT.out.below hbr).at j (by rw [← HTN.out]; exact hlt2)
      have hjl : j < ts.length := by rw [← HTN.out]; exact hlt2
      have hmem : (M (ts[j]).toNat).isSome = true := (HKS.out.2 _).1 (List.getElem_mem hjl)
      have htk : ts.take (j + 1) = ts.take j ++ [ts[j]] := by rw [List.take_succ_eq_append_getElem hjl]
      obtain ⟨x, hx⟩ : ∃ x, x = ts[j] := ⟨_, rfl⟩
      rw [← hx] at hq0 hmem htk
      have hkn := x.toNat_lt
      unfold bv at hq0
      obtain ⟨kn, hkn2⟩ : ∃ m : Nat, m = x.toNat := ⟨_, rfl⟩
      rw [← hkn2] at hq0 hmem hkn
      obtain ⟨⟨ln, t⟩, hM⟩ : ∃ y, M kn = some y := Option.isSome_iff_exists.1 hmem
      have hgk := HOW.out.gk (nm := nm) hkn (by rw [hM]; simp)
      have hsn : allL M (ts.take (j + 1)) = allL M (ts.take j) ++ [(kn, ln, t)] := by
        rw [htk]
        simp [allL, ← hkn2, hM]
      have hll : (allL M (ts.take j)).length = j := by have := HTN.out; simp [allL]; omega
      have hg := get_some p b c nm kn M wr (H3.out.below hbr) hkn ln t (by rw [hgk]; exact hM)
      rw [hgk] at hg
      have HG := Lib.hid hg
      have HSN := Lib.hid hsn
      obtain ⟨us, ho1, ho2, ho3⟩ := hor
      generalize allL M (ts.take j) = L0 at *
      obtain ⟨av, cv, hv, -⟩ := ho1.form
      injection hv with hv1 hv2 hv3
      subst hv1 hv2 hv3
      rw [hll] at ho1 ho2 ⊢
      have HLL := Lib.hid hll
      have HO1 := Lib.hid ho1
      have HO2 := Lib.hid ho2
      have HO3 := Lib.hid ho3
      clear hg hM hgk hsn htk hx hmem ho1 ho2 ho3 hkn2 hjl hll
      go_wp2_with fail
      refine HG.out.mono ?_
      rintro e w4 ⟨v4, rfl, ho4, hb4⟩
      obtain ⟨a4, c4, hv4, -⟩ := ho4.form
      subst hv4
      obtain ⟨tl, htl⟩ : ∃ tl, tl = t.length := ⟨_, rfl⟩
      rw [← htl] at ho4 ⊢
      have hb5 : Below w4.heap.size w4 ((w4.alloc (.cells #[.int .u8 (kn : Nat), .bool ln, .slice a4 tl c4] 28)).alloc (.cells #[.int .u8 (kn : Nat), .bool ln, .slice a4 tl c4] 28)) := ((Below.refl _ w4).alloc (Nat.le_refl _) _).alloc (by simp) _
      have hk5 : (w4.alloc (.cells #[.int .u8 (kn : Nat), .bool ln, .slice a4 tl c4] 28)).heap[w4.heap.size]? = _ := alloc_new _ _ _ rfl
      have gp := cell_blk hk5
      have hrq : RV ((w4.alloc (.cells #[.int .u8 (kn : Nat), .bool ln, .slice a4 tl c4] 28)).alloc (.cells #[.int .u8 (kn : Nat), .bool ln, .slice a4 tl c4] 28)) (some ⟨w4.heap.size + 1, 0, none⟩) 1 3 [.int .u8 (kn : Nat), .bool ln, .slice a4 tl c4] := by
        have h := RV_lit (w4.alloc (.cells #[.int .u8 (kn : Nat), .bool ln, .slice a4 tl c4] 28)) 28 1 3 [.int .u8 (kn : Nat), .bool ln, .slice a4 tl c4] (fr := (0, 0)) rfl (by unfold maxLen; omega)
        have e : (w4.alloc (.cells #[.int .u8 (kn : Nat), .bool ln, .slice a4 tl c4] 28)).heap.size = w4.heap.size + 1 := by simp
        rw [e] at h
        exact h
      have hbt := hb4.trans (hb5.mono hb4.size)
      have hst : w3.heap.size ≤ ((w4.alloc (.cells #[.int .u8 (kn : Nat), .bool ln, .slice a4 tl c4] 28)).alloc (.cells #[.int .u8 (kn : Nat), .bool ln, .slice a4 tl c4] 28)).heap.size := by have := hb4.size; have := hbr.size; simp; omega
      have ho4' := ((ho4.below hb5).mono hbr.size)
      have HRQ := Lib.hid hrq
      have HBT := Lib.hid hbt
      have HO4 := Lib.hid ho4'
      clear hrq hbt hb5 ho4 ho4' hk5 htl
      go_wp2_with (at_builtin; refine wpList_appV regsT _ rfl _ _ rfl w3.heap.size _ _ _ rfl (HO1.out.below HBT.out) _ _ _ _ rfl HRQ.out (fun u hu => by simp at hu; rcases hu with rfl | rfl | rfl <;> rfl) ?c1 ?c2 hst ?_)
      case c1 => omega
      case c2 => omega
      intro v1 w5 hown1 hg1 hat1
      have hb1 : Below w3.heap.size w3 w5 := (HO1.out.below HBT.out).grown (below_then hbr HBT.out hbr.size) hst hg1
      have hor1 := OR.snoc (x := (kn, ln, t)) (by rw [HLL.out]; exact HO1.out) (by rw [HLL.out]; exact HO2.out) HO3.out HBT.out HO4.out (by rw [HLL.out]; exact hown1) hg1
      rw [← HSN.out] at hor1
      obtain ⟨a1, c1, hv1⟩ := hor1.form
      subst hv1
      have HOR := Lib.hid hor1
      clear hor1 hown1 hg1 hat1 gp
      go_wp2
      exact ⟨⟨j + 1, by omega, by first | go_num | (simp; done), ⟨_, _, _, rfl⟩, HOR.out, hb1⟩, by simp [intOf]; omega⟩
    · obtain rfl : j = tn := by omega
      go_wp2
      go_ret
      refine ⟨_, ts, rfl, HKS.out, HPW.out, ?_, HB13.out.trans (hbr.mono HB13.out.size)⟩
      rw [HTN.out, List.take_length] at hor
      exact hor.mono HB13.out.size
end Go.Proofs.Ytleicgigkbfnbaa
