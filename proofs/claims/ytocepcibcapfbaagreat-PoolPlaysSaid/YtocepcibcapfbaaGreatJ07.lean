/- The walks of the references' lies, Get, Copy, Same. -/
import Derived.Test.YtocepcibcapfbaaGreatProg
import Derived.Test.YtocepcibcapfbaaGreatJ00
import Derived.RegionTactic
import Derived.ChangeAlike
import Derived.Outline
import Derived.Test.YtocepcibcapfbaaGreatJ01
import Derived.Deep.QuietTactic
import Derived.BigQuiet
namespace Go.Proofs.YtocepcibcapfbaaGreat
set_option linter.unusedVariables false
set_option linter.unusedSimpArgs false
open Go.RowKit

theorem take_snoc (l : List UInt8) (k : Nat) (h : k < l.length) : l.take (k + 1) = l.take k ++ [l[k]] := List.take_succ_eq_append_getElem h

set_option maxHeartbeats 400000 in
theorem copy_any (a : Option Addr) (len cap : Nat) (l : List UInt8) (w : World) (hr : Rd w a len l) (hm : len ≤ 140737488355328) :
    Calls Tryz.prog 51 #[.slice a len cap] w fun e w' => ∃ v, e = .returned v ∧ OB w' w.heap.size v l ∧ Below w.heap.size w w' := by
  have hlen1 : l.length ≤ len := by have := hr.1; omega
  have hlen2 : len ≤ l.length := by have := hr.1; omega
  have HR := Lib.hid hr
  clear hr
  go_enter Tryz.func51, Tryz.ntmps51
  go_wp2
  go_loopw [3, 4] (fun v i wr => ∃ k : Nat, k ≤ len ∧ i = .int .i64 k ∧ OB wr w.heap.size v (l.take k) ∧ Below w.heap.size w wr) (fun _ i _ => len - (intOf i).toNat)
  case atStart => exact ⟨0, by omega, rfl, OB.nil _ _, Below.refl _ _⟩
  case round =>
    obtain ⟨k, hk, rfl, hown, hbl⟩ := hrel
    by_cases hlt : k < len
    · obtain ⟨p, rfl, hc0⟩ := HR.out.at k (by omega)
      have hcell : wr.cell? (p.add k) = some (.int .u8 (l[k].toNat : Int)) := by rw [hbl.cell (lt_of_cell hc0)]; exact hc0
      have hsz := hbl.size
      go_wp2_with (at_builtin; go_loud (refine wpList_app _ rfl _ _ rfl w.heap.size u3 (l.take k) rfl (hown.alloc _) _ 1 1 [l[k]] rfl ?c1 ?c2 ?c3 ?_))
      case c1 => exact Rd_one _ _ _
      case c2 => simp; omega
      case c3 => simp; omega
      intro v1 w1 hown1 hg1 hat1
      go_wp2
      go_roundw
      case rel => exact ⟨k + 1, by omega, by go_num, hown1, (hown.alloc _).grown (hbl.alloc hsz _) (by simp; omega) hg1⟩
      case measure => simp [intOf]; omega
    · obtain rfl : k = len := by omega
      have e : l.take k = l := List.take_of_length_le hlen1
      have HO : OB wr w.heap.size u3 l := by rw [e] at hown; exact hown
      have HO := Lib.hid HO
      clear hown e
      go_wp2
      go_ret
      exact ⟨_, rfl, HO.out, hbl⟩

set_option maxHeartbeats 400000 in
theorem same_any (a b : Option Addr) (la lb ca cb : Nat) (l k : List UInt8) (w : World) (hl : Rd w a la l) (hk : Rd w b lb k) :
    Calls Tryz.prog 12 #[.slice a la ca, .slice b lb cb] w fun e w' => e = .returned (.bool (decide (l = k))) ∧ ∃ n, w' = w.drewN n := by
  have la1 : l.length ≤ la := by have := hl.1; omega
  have la2 : la ≤ l.length := by have := hl.1; omega
  have lb1 : k.length ≤ lb := by have := hk.1; omega
  have lb2 : lb ≤ k.length := by have := hk.1; omega
  have hm := hl.2.1
  unfold maxLen at hm
  have HL := Lib.hid hl
  have HK := Lib.hid hk
  clear hl hk
  by_cases hne : la = lb
  · subst hne
    go_enter Tryz.func12, Tryz.ntmps12
    go_wp2
    go_loopw [5] (fun i wr => ∃ j : Nat, j ≤ la ∧ i = .int .i64 j ∧ l.take j = k.take j ∧ ∃ n, wr = w.drewN n) (fun i _ => la - (intOf i).toNat)
    case atStart => exact ⟨0, by omega, rfl, rfl, 0, rfl⟩
    case round =>
      obtain ⟨j, hj, rfl, hpre, n, rfl⟩ := hrel
      have HP := Lib.hid hpre
      clear hpre
      by_cases hlt : j < la
      · obtain ⟨p, rfl, hc0⟩ := HL.out.at j (by omega)
        obtain ⟨q, rfl, hd0⟩ := HK.out.at j (by omega)
        unfold bv at hc0 hd0
        by_cases he : l[j] = k[j]
        · have ht : ((l[j].toNat : Int) != (k[j].toNat : Int)) = false := by simp [he]
          have HN : Hid (l.take (j + 1) = k.take (j + 1)) := by
            rw [Hid, take_snoc l j (by omega), take_snoc k j (by omega), HP.out, he]
          clear he
          go_wp2
          go_quiet (fail)
          go_wp2
          exact ⟨⟨j + 1, by omega, by go_num, HN.out, _, rfl⟩, by simp [intOf]; omega⟩
        · have ht : ((l[j].toNat : Int) != (k[j].toNat : Int)) = true := by
            simp only [bne_iff_ne, ne_eq]
            intro e
            exact he (UInt8.toNat_inj.1 (by omega))
          have hv : decide (l = k) = false := by
            rw [decide_eq_false_iff_not]
            rintro rfl
            exact he rfl
          have HV := Lib.hid hv
          clear hv he
          go_wp2
          go_quiet (fail)
          go_wp2
          go_ret
          exact ⟨by rw [HV.out]; rfl, n + nq, World.drewN_drewN ..⟩
      · obtain rfl : j = la := by omega
        have hv : decide (l = k) = true := by
          rw [decide_eq_true_iff]
          have e := HP.out
          rwa [List.take_of_length_le (by omega), List.take_of_length_le (by omega)] at e
        have HV := Lib.hid hv
        clear hv
        go_wp2
        go_ret
        exact ⟨by rw [HV.out]; rfl, n, rfl⟩
  · have ht : ((la : Int) != (lb : Int)) = true := by simp only [bne_iff_ne, ne_eq]; omega
    have hv : decide (l = k) = false := by
      rw [decide_eq_false_iff_not]
      rintro rfl
      omega
    have HV := Lib.hid hv
    clear hv hne
    go_enter Tryz.func12, Tryz.ntmps12
    go_wp2
    go_ret
    exact ⟨by rw [HV.out]; rfl, 0, rfl⟩
end Go.Proofs.YtocepcibcapfbaaGreat
/- The reference's Same, with 'Below' as its post. -/
namespace Go.Proofs.YtocepcibcapfbaaGreat
set_option linter.unusedVariables false
set_option linter.unusedSimpArgs false
open Go.RowKit

theorem same_refl (a b : Option Addr) (la ca cb : Nat) (l : List UInt8) (w : World) (hl : Rd w a la l) (hk : Rd w b la l) :
    Calls Tryz.prog 12 #[.slice a la ca, .slice b la cb] w fun e w' => e = .returned (.bool true) ∧ Below w.heap.size w w' :=
  (same_any a b la la ca cb l l w hl hk).mono fun e w' ⟨h, n, hn⟩ => by
    subst hn
    exact ⟨by simpa using h, below_drewN (Below.refl _ w) n⟩
theorem same_b (a b : Option Addr) (la lb ca cb : Nat) (l k : List UInt8) (w : World) (hl : Rd w a la l) (hk : Rd w b lb k) :
    Calls Tryz.prog 12 #[.slice a la ca, .slice b lb cb] w fun e w' => e = .returned (.bool (decide (l = k))) ∧ Below w.heap.size w w' :=
  (same_any a b la lb ca cb l k w hl hk).mono fun e w' ⟨h, n, hn⟩ => by
    subst hn
    exact ⟨h, below_drewN (Below.refl _ w) n⟩

end Go.Proofs.YtocepcibcapfbaaGreat
