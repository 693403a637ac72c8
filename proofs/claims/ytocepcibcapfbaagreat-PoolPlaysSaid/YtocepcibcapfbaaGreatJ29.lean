/- Maps from ints: the keys. -/
import Derived.Test.YtocepcibcapfbaaGreatJ21
import Derived.Lib.SlKeysI
namespace Go.Proofs.YtocepcibcapfbaaGreat
set_option linter.unusedVariables false
set_option linter.unusedSimpArgs false
set_option linter.unusedSectionVars false
open Go.RowKit Go.Maps
variable [Inhabited AvT]

/-- The map's keys, in whatever order. -/
theorem Mi.keys {w : World} {b n : Nat} {V : Int → Option Value} {D : DataW Value} (h : w.ownsMap Tryz.prog 3 hvI b n D) (hs : ∀ k, inI k → SaysI D k (V k)) (ss : List Int) (hnd : ss.Nodup) (hin : ∀ k ∈ ss, inI k) (hm : ∀ k, inI k → (k ∈ ss ↔ (V k).isSome = true)) : ss.Perm (Go.intKeys D) := by
  have hc : Go.CollectedI D (fun _ => false) ss := ⟨hnd, fun x => ?_⟩
  · exact hc.perm h keyedI Tryz.underlying3 (fun _ => rfl)
  · by_cases hx : inI x
    · have hx2 := hs x hx
      rw [hm x hx]
      rcases hV : V x with _ | v
      · rw [hV] at hx2
        simp [show has D (.int .i64 x) = false from hx2.1]
      · rw [hV] at hx2
        simp [show has D (.int .i64 x) = true from hx2.1]
    · constructor
      · intro h; exact absurd (hin x h) hx
      · rintro ⟨h1, -⟩
        obtain ⟨es, hD, hpw, -⟩ := h.entries keyedI
        have hmem : x ∈ Go.intKeys D := by
          subst hD
          rw [has_eq, List.any_eq_true] at h1
          obtain ⟨p, hp, hsk⟩ := h1
          obtain ⟨es', hD', hko⟩ := h.keysOf
          obtain rfl : es = es' := by simpa using hD'
          obtain ⟨v, hv⟩ := hko p hp
          obtain ⟨y, -, hy, -⟩ := Maps.keyOf_i64 Tryz.underlying3 hv
          refine List.mem_map.2 ⟨p, hp, ?_⟩
          rw [hy] at hsk ⊢
          simpa [Lit.sameKey, Go.intOf] using hsk
        have hw := Go.intKeys_wf h Tryz.underlying3 x hmem
        have h1 : IntKind.i64.min = -9223372036854775808 := by decide
        have h2 : IntKind.i64.max = 9223372036854775807 := by decide
        simp [Lit.wf, h1, h2] at hw
        exact absurd (show inI x from ⟨by omega, by omega⟩) hx

/-- How many entries a map has. -/
theorem Mi.len {w : World} {b n : Nat} {V : Int → Option Value} (h : Mi w b n V) (od : List Nat) (hnd : od.Nodup) (hm : ∀ k, inI k → ((V k).isSome = true ↔ 0 ≤ k ∧ k.toNat ∈ od)) (hin : ∀ k ∈ od, k ≤ 1000000) (ty : TypeId) :
    (Builtin.len_ #[67] ty #[.map (some b)]).run Tryz.prog w = .ok (.int .i64 (od.length : Int)) w := by
  obtain ⟨D, h, hs⟩ := h
  rw [h.len Tryz.underlying67 ty]
  have hp := Mi.keys h hs (od.map Int.ofNat) (List.pairwise_map.2 (hnd.imp (fun hne e => hne (Int.ofNat.inj e)))) (fun k hk => by
    obtain ⟨m, hm, rfl⟩ := List.mem_map.1 hk
    have := hin m hm
    show -9223372036854775808 ≤ ((m : Nat) : Int) ∧ ((m : Nat) : Int) ≤ 9223372036854775807
    omega) (fun k hk => by
    rw [hm k hk]
    constructor
    · intro hh
      obtain ⟨m, hm, rfl⟩ := List.mem_map.1 hh
      exact ⟨by show (0 : Int) ≤ ((m : Nat) : Int); omega, by simpa using hm⟩
    · rintro ⟨h0, h1⟩
      exact List.mem_map.2 ⟨_, h1, by show ((k.toNat : Nat) : Int) = k; omega⟩)
  have hl := hp.length_eq
  rw [List.length_map] at hl
  rw [hl]
  obtain ⟨es, hD, -⟩ := h.entries keyedI
  subst hD
  simp [Maps.size, Go.intKeys]
end Go.Proofs.YtocepcibcapfbaaGreat
