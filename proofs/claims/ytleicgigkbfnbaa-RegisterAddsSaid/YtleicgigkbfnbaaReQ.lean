/- slices.Sort at one byte or none, slices.Sorted(maps.Keys(m)), All. -/
import Derived.Test.YtleicgigkbfnbaaReP
import Derived.Test.YtleicgigkbfnbaaReF
namespace Go.Proofs.Ytleicgigkbfnbaa
set_option linter.unusedVariables false
set_option linter.unusedSimpArgs false
open Go.RowKit Go.Shelf Go.Maps

/-- slices.Sort sorts up to K bytes that the call owns. -/
def SortsB (K : Nat) : Prop := ∀ (B : Nat) (W : World) (v : Value) (ks : List UInt8), OB W B v ks → ks.length ≤ K → B ≤ W.heap.size →
  Calls Try.prog 40 #[v] W fun e w' => (∃ u, e = .returned u) ∧ ∃ ts, OB w' B v ts ∧ ts.Perm ks ∧ ts.Pairwise (· ≤ ·) ∧ Below B W w'
set_option maxRecDepth 100000 in
set_option maxHeartbeats 1600000 in
theorem len64_01 (n : Nat) (hn : n ≤ 1) (w : World) : Calls Try.prog 57 #[.int .u64 n] w fun e w' => (∃ m : Int, e = .returned (.int .i64 m)) ∧ w' = w := by
  obtain rfl | rfl : n = 0 ∨ n = 1 := by omega
  all_goals
    go_enter Try.func57, Try.ntmps57
    go_wp2
    go_ret
    exact ⟨⟨_, rfl⟩, rfl⟩
theorem len_01 (n : Nat) (hn : n ≤ 1) (w : World) : Calls Try.prog 46 #[.int .u64 n] w fun e w' => (∃ m : Int, e = .returned (.int .i64 m)) ∧ w' = w := by
  have H := Lib.hid (fun w => len64_01 n hn w)
  go_enter Try.func46, Try.ntmps46
  go_wp2_with fail
  refine (H.out _).mono ?_
  rintro e w1 ⟨⟨m, rfl⟩, rfl⟩
  go_wp2
  go_ret
  exact ⟨⟨_, rfl⟩, rfl⟩
theorem ins_01 (a : Option Addr) (n c : Nat) (hn : n ≤ 1) (w : World) : Calls Try.prog 47 #[.slice a n c, .int .i64 0, .int .i64 n] w fun e w' => (∃ u, e = .returned u) ∧ w' = w := by
  have h1 : ¬ (1 : Int) < (n : Int) := by omega
  go_enter Try.func47, Try.ntmps47
  go_wp2
  go_loopw [6] (fun i wr => i = .int .i64 1 ∧ wr = w) (fun _ _ => 0)
  case atStart => exact ⟨rfl, rfl⟩
  case round =>
    obtain ⟨rfl, rfl⟩ := hrel
    go_wp2
    go_end0
    exact ⟨⟨_, rfl⟩, rfl⟩
theorem pdq_01 (a : Option Addr) (n c : Nat) (m : Int) (hn : n ≤ 1) (w : World) : Calls Try.prog 45 #[.slice a n c, .int .i64 0, .int .i64 n, .int .i64 m] w fun e w' => (∃ u, e = .returned u) ∧ w' = w := by
  have H := Lib.hid (fun w => ins_01 a n c hn w)
  have h1 : (n : Int) ≤ 12 := by omega
  have h2 : (n : Int) - 0 = (n : Int) := by omega
  have h3 : IntKind.i64.wrap (n : Int) = (n : Int) := Go.IntWalk.i64_in _ (by omega)
  go_enter Try.func45, Try.ntmps45
  go_wp2
  go_loopw [1, 2, 3] (fun x y z wr => x = .int .i64 0 ∧ y = .int .i64 n ∧ z = .int .i64 m ∧ wr = w) (fun _ _ _ _ => 0)
  case atStart => exact ⟨rfl, rfl, rfl, rfl⟩
  case round =>
    obtain ⟨rfl, rfl, rfl, rfl⟩ := hrel
    go_wp2_with fail
    refine (H.out _).mono ?_
    rintro e w1 ⟨⟨u, rfl⟩, rfl⟩
    go_wp2
    refine bodyPost_ret (results_none rfl _ _ _) rfl ?_
    exact ⟨⟨_, rfl⟩, rfl⟩
theorem sorts1 : SortsB 1 := by
  intro B W v ks ho hk hB
  obtain ⟨a, c, rfl, -⟩ := ho.form
  have HO := Lib.hid ho
  have hl : ks.length ≤ 1 := hk
  have HK := Lib.hid hk
  obtain ⟨n, hn⟩ : ∃ n, n = ks.length := ⟨_, rfl⟩
  rw [← hn] at hl ⊢
  have H1 := Lib.hid (fun w => len_01 n hl w)
  have H2 := Lib.hid (fun m w => pdq_01 a n c m hl w)
  have h3 : IntKind.u64.wrap (n : Int) = (n : Int) := by
    obtain rfl | rfl : n = 0 ∨ n = 1 := by omega
    all_goals rfl
  have HN := Lib.hid hn
  clear ho hk hn
  go_enter Try.func40, Try.ntmps40
  go_wp2_with fail
  refine (H1.out _).mono ?_
  rintro e w1 ⟨⟨m, rfl⟩, rfl⟩
  go_wp2_with fail
  refine (H2.out _ _).mono ?_
  rintro e w1 ⟨⟨u, rfl⟩, rfl⟩
  go_wp2
  go_end0
  refine ⟨⟨_, rfl⟩, ks, by rw [HN.out]; exact HO.out, List.Perm.refl _, ?_, Below.refl _ _⟩
  have hk := HK.out
  rcases ks with _ | ⟨x, _ | ⟨y, ks⟩⟩
  · exact List.Pairwise.nil
  · exact List.pairwise_singleton _ _
  · simp at hk
def KeysOf (M : RM) (ts : List UInt8) : Prop := ts.Nodup ∧ ∀ x : UInt8, x ∈ ts ↔ (M x.toNat).isSome = true
/-- slices.Sorted of the keys of a map. -/
theorem sorted_any (K : Nat) (hK : SortsB K) (nn Bm b n : Nat) (D : DataW Value) (w : World) (hBm : Bm < w.heap.size) (hm : w.cell? ⟨Bm, 0, none⟩ = some (.map (some b))) (hown : w.ownsMap Try.prog 5 hv b n D) (hn : n ≤ 1000000)
    (hKs : ∀ ks : List UInt8, (ks.Nodup ∧ ∀ x : UInt8, x ∈ ks ↔ has D (kl x.toNat) = true) → ks.length ≤ K) :
    Calls Try.prog 31 #[.func (.func 41) #[] #[.pointer (some ⟨Bm, 0, none⟩)]] w fun e w' => ∃ v ts, e = .returned v ∧ (ts.Nodup ∧ ∀ x : UInt8, x ∈ ts ↔ has D (kl x.toNat) = true) ∧ ts.Pairwise (· ≤ ·) ∧ OB w' w.heap.size v ts ∧ Below w.heap.size w w' := by
  have hsz := hown.size_le
  have hc := callsIn_wide.1 (collect_any 5 (by omega) 41 #[.pointer (some ⟨Bm, 0, none⟩)] (enters_of Try.func41 (by kernel_rfl) rfl) _ (Maps.size D) (by omega) w (keys_gives 3 (by omega) Bm b n D w hBm hm hown))
  have HC := Lib.hid hc
  have HS := Lib.hid hK
  have HKS := Lib.hid hKs
  clear hc hK hKs hown hm
  go_enter Try.func31, Try.ntmps31
  go_wp2_with fail
  refine HC.out.mono ?_
  rintro e w1 ⟨v, ks, rfl, hks, ho, hb⟩
  have hso := HS.out w.heap.size w1 v ks ho (HKS.out ks hks) hb.size
  have HSO := Lib.hid hso
  clear hso
  go_wp2_with fail
  refine HSO.out.mono ?_
  rintro e w2 ⟨⟨u, rfl⟩, ts, ho2, hp, hpw, hb2⟩
  go_wp2
  go_ret
  exact ⟨v, ts, rfl, ⟨hp.nodup_iff.2 hks.1, fun x => by rw [hp.mem_iff]; exact hks.2 x⟩, hpw, ho2, hb.trans hb2⟩
end Go.Proofs.Ytleicgigkbfnbaa
