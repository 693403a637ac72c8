/- The walks of the parts of page.Seal. -/
import Derived.Test.YtpdmhnppibfmkaaOcE
import Derived.Test.YtpdmhnppibfmkaaPage
import Derived.StillTailTactics
import Derived.Deep.RegionHeld3
import Derived.Laws.CopyOwn
import Derived.BigRegion
import Derived.Deep.RegionWith
namespace Go.Proofs.Ytpdmhnppibfmkaa
set_option linter.unusedVariables false
set_option linter.unusedSimpArgs false
open Go.RowKit

/-- What stands in memory while a page is sealed: the struct in block B, its bytes in block g. -/
def Sealing (w : World) (B g : Nat) (k l c : Int) (a : Option Addr) (n m : Nat) (L : List UInt8) : Prop :=
  w.heap[B]? = some (.cells #[.int .i64 k, .int .i64 l, .int .i64 c, .slice a n m, .slice (some ⟨g, 0, none⟩) 256 256] 129 (0, 0)) ∧
  L.length = 256 ∧ w.heap[g]? = some (.cells (bvs L).toArray 5 (0, 0)) ∧ B ≠ g

theorem byte_ofInt (k : Int) (h0 : 0 ≤ k) : IntKind.u8.wrap k = ((UInt8.ofNat k.toNat).toNat : Int) := by
  obtain ⟨x, rfl⟩ := Int.eq_ofNat_of_zero_le h0
  rw [IntKind.wrap_u8]
  simp

theorem setRow_set (L : List UInt8) (i : Nat) (c : UInt8) : (bvs L).toArray.setIfInBounds i (bv c) = (bvs (L.set i c)).toArray := by
  simp [bvs]
theorem blk_set {w : World} {g : Nat} {L : List UInt8} {t : TypeId} (h : w.heap[g]? = some (.cells (bvs L).toArray t (0, 0))) (i : Nat) (c : UInt8) :
    (w.setCell ⟨g, i, none⟩ (bv c)).heap[g]? = some (.cells (bvs (L.set i c)).toArray t (0, 0)) := by
  rw [← setRow_set]
  exact blk_setCell h i (bv c)

theorem byte_in (k : Int) (h0 : 0 ≤ k) (h1 : k < 256) : Value.int .u8 k = bv (UInt8.ofNat k.toNat) := by
  obtain ⟨x, rfl⟩ := Int.eq_ofNat_of_zero_le h0
  unfold bv
  congr 1
  simp
  omega
theorem Sealing.store {w : World} {B g : Nat} {k l c : Int} {a : Option Addr} {n m : Nat} {L : List UInt8} (hs : Sealing w B g k l c a n m L) (i : Nat) (x : UInt8) :
    Sealing (w.setCell ⟨g, i, none⟩ (bv x)) B g k l c a n m (L.set i x) := by
  obtain ⟨hB, hL, hg, hne⟩ := hs
  exact ⟨blk_other hB _ (by exact hne) _, by simpa using hL, blk_set hg i x, hne⟩
theorem Sealing.drew {w : World} {B g : Nat} {k l c : Int} {a : Option Addr} {n m : Nat} {L : List UInt8} (hs : Sealing w B g k l c a n m L) : Sealing w.drew B g k l c a n m L := hs
theorem Sealing.at {w : World} {B g : Nat} {k l c : Int} {a : Option Addr} {n m : Nat} {L : List UInt8} (hs : Sealing w B g k l c a n m L) (i : Nat) (hi : i < 256) :
    ∃ u, w.cell? ⟨g, i, none⟩ = some u := by
  obtain ⟨hB, hL, hg, hne⟩ := hs
  exact ⟨_, by rw [cell_blk hg i]; simpa using bvs_at L i (by omega)⟩

set_option maxRecDepth 100000 in
set_option maxHeartbeats 400000 in
theorem kind_any (B g : Nat) (k l c : Int) (a : Option Addr) (n m : Nat) (L : List UInt8) (w : World) (hs : Sealing w B g k l c a n m L) (h0 : 0 ≤ k) (h1 : k < 256) :
    Calls Try.prog 83 #[.pointer (some ⟨B, 0, none⟩)] w fun e w' =>
      e = .returned (.tuple #[]) ∧ Sealing w' B g k l c a n m (L.set 4 (UInt8.ofNat k.toNat)) ∧ Chg (fun i => i = g) w w' := by
  have f0 : w.cell? ⟨B, 0, none⟩ = some (.int .i64 k) := cell_blk hs.1 0
  have f4 : w.cell? ⟨B, 4, none⟩ = some (.slice (some ⟨g, 0, none⟩) 256 256) := cell_blk hs.1 4
  have fz : w.frozen? ⟨g, 4, none⟩ = false := free_blk hs.2.2.1 4
  obtain ⟨u, fc⟩ := hs.at 4 (by omega)
  have HS := Lib.hid hs
  have HW := Lib.hid (byte_in k h0 h1)
  clear hs
  go_enter Try.func83, Try.ntmps83
  go_wp2
  go_still_tail 11, (by kernel_rfl)
  go_wp2
  go_end0
  rw [HW.out]
  exact ⟨rfl, (HS.out.store 4 _).drew, ((Chg.refl (fun i => i = g) w).setCell _ _ (.inr rfl)).drew⟩

set_option maxRecDepth 100000 in
set_option maxHeartbeats 400000 in
theorem level_any (B g : Nat) (k l c : Int) (a : Option Addr) (n m : Nat) (L : List UInt8) (w : World) (hs : Sealing w B g k l c a n m L) (h0 : 0 ≤ l) (h1 : l < 256) :
    Calls Try.prog 84 #[.pointer (some ⟨B, 0, none⟩)] w fun e w' =>
      e = .returned (.tuple #[]) ∧ Sealing w' B g k l c a n m (L.set 5 (UInt8.ofNat l.toNat)) ∧ Chg (fun i => i = g) w w' := by
  have f0 : w.cell? ⟨B, 1, none⟩ = some (.int .i64 l) := cell_blk hs.1 1
  have f4 : w.cell? ⟨B, 4, none⟩ = some (.slice (some ⟨g, 0, none⟩) 256 256) := cell_blk hs.1 4
  have fz : w.frozen? ⟨g, 5, none⟩ = false := free_blk hs.2.2.1 5
  obtain ⟨u, fc⟩ := hs.at 5 (by omega)
  have HS := Lib.hid hs
  have HW := Lib.hid (byte_in l h0 h1)
  clear hs
  go_enter Try.func84, Try.ntmps84
  go_wp2
  go_still_tail 11, (by kernel_rfl)
  go_wp2
  go_end0
  rw [HW.out]
  exact ⟨rfl, (HS.out.store 5 _).drew, ((Chg.refl (fun i => i = g) w).setCell _ _ (.inr rfl)).drew⟩

set_option maxRecDepth 100000 in
set_option maxHeartbeats 800000 in
theorem count_any (B g : Nat) (k l c : Int) (a : Option Addr) (n m : Nat) (L : List UInt8) (w : World) (hs : Sealing w B g k l c a n m L) (h0 : 0 ≤ c) (h1 : c < 65536) :
    Calls Try.prog 85 #[.pointer (some ⟨B, 0, none⟩)] w fun e w' =>
      e = .returned (.tuple #[]) ∧ Sealing w' B g k l c a n m ((L.set 6 (UInt8.ofNat (c / 256).toNat)).set 7 (UInt8.ofNat (c % 256).toNat)) ∧ Chg (fun i => i = g) w w' := by
  have f0 : w.cell? ⟨B, 2, none⟩ = some (.int .i64 c) := cell_blk hs.1 2
  have f4 : w.cell? ⟨B, 4, none⟩ = some (.slice (some ⟨g, 0, none⟩) 256 256) := cell_blk hs.1 4
  have fz : w.frozen? ⟨g, 6, none⟩ = false := free_blk hs.2.2.1 6
  have fy : w.frozen? ⟨g, 7, none⟩ = false := free_blk hs.2.2.1 7
  obtain ⟨u, fc⟩ := hs.at 6 (by omega)
  obtain ⟨v, fd⟩ := hs.at 7 (by omega)
  have HS := Lib.hid hs
  have HW := Lib.hid (byte_in (c / 256) (by omega) (by omega))
  have HV := Lib.hid (byte_in (c % 256) (by omega) (by omega))
  clear hs
  go_enter Try.func85, Try.ntmps85
  go_wp2
  go_region
  go_end0
  rw [HW.out, HV.out]
  exact ⟨rfl, ((HS.out.store 6 _).store 7 _).drew, (((Chg.refl (fun i => i = g) w).setCell _ _ (.inr rfl)).setCell _ _ (.inr rfl)).drew⟩

/-- 'copy' of bytes into a block that is known whole, where they fit. -/
theorem wpList_copyb (w : World) {ops : Array Oper} {rest : List Oper} {o : Oper} {a : Act} {Q : Exit → Act → World → Prop} (hgd : o.guard = none) (d s : Operand)
    (ho : o.op = .call { callee := .builtin .copy, args := #[d, s], argTypes := #[24, 24] })
    (dLen dCap sLen sCap g off : Nat) (sp : Option Addr) (hd : a.eval d = .slice (some ⟨g, off, none⟩) dLen dCap) (hs : a.eval s = .slice sp sLen sCap)
    (L k : List UInt8) (t : TypeId) (hg : w.heap[g]? = some (.cells (bvs L).toArray t (0, 0))) (hr : Rd w sp sLen k) (hle : sLen ≤ dLen) (hfit : off + sLen ≤ L.length)
    (h : ∀ w', w'.heap[g]? = some (.cells (bvs (L.take off ++ k ++ L.drop (off + sLen))).toArray t (0, 0)) → Chg (fun i => i = g) w w' → wpList Try.prog ops Q rest (a.put o.dst (goInt sLen)) w') :
    wpList Try.prog ops Q (o :: rest) a w := by
  have hkl := hr.1
  have hsz : (Try.prog.info? 5).map (·.size) = some 1 := by kernel_rfl
  rcases Nat.eq_zero_or_pos sLen with h0 | h0
  · subst h0
    have hk : k = [] := List.eq_nil_of_length_eq_zero hkl
    subst hk
    refine wpList_copy_nothing hgd d s _ _ ho 5 Try.underlying24 hsz _ sp dLen dCap 0 sCap hd hs (by simp) ?_
    exact h w (by simpa using hg) (Chg.refl _ w)
  · obtain ⟨p, rfl, hc⟩ := hr.ptr (by omega)
    have e : (bvs L).toArray.toList.take off ++ (bvs k ++ (bvs L).toArray.toList.drop (off + (bvs k).length)) = bvs (L.take off ++ k ++ L.drop (off + sLen)) := by
      simp [bvs, hkl]
    refine wpList_copy_own hgd d s _ _ ho 5 Try.underlying24 hsz g off dLen dCap p sLen sCap hd hs (bvs L).toArray t hg (bvs k) (by rw [bvs_length, hkl]; exact (Nat.min_eq_left hle).symm) ?_
      (by simp [bvs_length]; omega) (bvs_one k) ?_
    · intro j v hj
      simp only [bvs, List.getElem?_map, Option.map_eq_some_iff] at hj
      obtain ⟨x, hx, rfl⟩ := hj
      obtain ⟨hj, rfl⟩ := List.getElem?_eq_some_iff.1 hx
      exact hc j hj
    · rw [e, bvs_length, hkl]
      exact h _ (setRow_heap w g _ _ t _ hg) ⟨rfl, rfl, rfl, by simp [World.setRow], fun i _ hi => setRow_other w g i _ (fun e => hi e)⟩

set_option maxRecDepth 100000 in
set_option maxHeartbeats 800000 in
theorem body_any (B g : Nat) (k l c : Int) (a : Option Addr) (n m : Nat) (L b : List UInt8) (w : World) (hs : Sealing w B g k l c a n m L) (hr : Rd w a n b) (hn : n ≤ 248) :
    Calls Try.prog 86 #[.pointer (some ⟨B, 0, none⟩)] w fun e w' =>
      e = .returned (.tuple #[]) ∧ Sealing w' B g k l c a n m (L.take 8 ++ (b ++ L.drop (8 + n))) ∧ Chg (fun i => i = g) w w' := by
  have f0 : w.cell? ⟨B, 3, none⟩ = some (.slice a n m) := cell_blk hs.1 3
  have f4 : w.cell? ⟨B, 4, none⟩ = some (.slice (some ⟨g, 0, none⟩) 256 256) := cell_blk hs.1 4
  have HS := Lib.hid hs
  have HR := Lib.hid hr
  clear hs hr
  go_enter Try.func86, Try.ntmps86
  go_wp2
  go_still_tail 10, (by kernel_rfl)
  change wpList _ _ _ _ _ w.drew
  refine wpList_copyb _ rfl _ _ rfl 248 248 n m g 8 a rfl rfl L b _ HS.out.2.2.1 HR.out (by omega) (by rw [HS.out.2.1]; omega) ?_
  intro w1 hg1 hc1
  rw [List.append_assoc] at hg1
  have HG := Lib.hid hg1
  clear hg1
  go_wp2
  go_end0
  obtain ⟨hB, hL, hg, hne⟩ := HS.out
  refine ⟨rfl, ⟨?_, ?_, HG.out, hne⟩, (Chg.refl _ w).drew.trans hc1⟩
  · rw [hc1.block B (lt_of_block hB) hne]
    exact hB
  · have := HR.out.1
    simp
    omega

theorem be4_of_crc (L : List UInt8) (h : L.length = 256) : P.put L 0 4 ((P.crc (L.drop 4) : Nat) : Int) = some (P.be 4 (P.crc (L.drop 4)) ++ L.drop 4) := by
  have hc := P.crc_lt (L.drop 4)
  have hb : P.lies L.length 0 4 = true := by unfold P.lies; apply decide_eq_true; omega
  have h2 : ((P.crc (L.drop 4) : Nat) : Int) < 256 ^ (4 : Int).toNat := by
    have : ((256 : Int) ^ (4 : Int).toNat) = 4294967296 := by decide
    omega
  unfold P.put
  rw [if_pos ⟨hb, by omega, by omega, h2⟩]
  simp

set_option maxRecDepth 100000 in
set_option maxHeartbeats 800000 in
theorem crcPart_any (B g : Nat) (k l c : Int) (a : Option Addr) (n m : Nat) (L : List UInt8) (w : World) (hs : Sealing w B g k l c a n m L) :
    Calls Try.prog 87 #[.pointer (some ⟨B, 0, none⟩)] w fun e w' =>
      e = .returned (.tuple #[]) ∧ ∃ v, w'.heap[B]? = some (.cells #[.int .i64 k, .int .i64 l, .int .i64 c, .slice a n m, v] 129 (0, 0)) ∧
        OB w' w.heap.size v (P.be 4 (P.crc (L.drop 4)) ++ L.drop 4) ∧ Chg (fun i => i = B) w w' := by
  obtain ⟨K, hK⟩ : ∃ K, K = P.be 4 (P.crc (L.drop 4)) ++ L.drop 4 := ⟨_, rfl⟩
  have hp := be4_of_crc L hs.2.1
  rw [← hK] at hp ⊢
  clear hK
  have hrd : Rd w (some ⟨g, 0, none⟩) 256 L := ⟨hs.2.1, by simp [maxLen], fun i hi => ⟨_, rfl, by
    have e : ((⟨g, 0, none⟩ : Addr).add i) = ⟨g, i, none⟩ := by unfold Addr.add; split <;> simp_all
    rw [e, cell_blk hs.2.2.1 i]
    simpa using bvs_at L i hi⟩⟩
  have f4 : w.cell? ⟨B, 4, none⟩ = some (.slice (some ⟨g, 0, none⟩) 256 256) := cell_blk hs.1 4
  have fz : w.frozen? ⟨B, 4, none⟩ = false := free_blk hs.1 4
  have HS := Lib.hid hs
  have HP := Lib.hid hp
  have hdr : Rd w (some ⟨g, 4, none⟩) 252 (L.drop 4) := ⟨by have := hs.2.1; simp; omega, by simp [maxLen], fun i hi => ⟨_, rfl, by
    have e : ((⟨g, 4, none⟩ : Addr).add i) = ⟨g, 4 + i, none⟩ := by unfold Addr.add; split <;> simp_all
    simp at hi
    rw [e, cell_blk hs.2.2.1 (4 + i)]
    simpa using bvs_at L (4 + i) (by omega)⟩⟩
  have HR := Lib.hid hrd
  have HQ := Lib.hid hdr
  clear hs hp hrd hdr
  go_enter Try.func87, Try.ntmps87
  go_wp2
  have hBlt : B < w.heap.size := lt_of_block HS.out.1
  have hcl := P.crc_lt (L.drop 4)
  have HW := Lib.hid (IntWalk.i64_in ((P.crc (L.drop 4) : Nat) : Int) (by omega))
  go_region_with (first
    | (go_at_call 65; refine (crc_any _ _ _ (L.drop 4) _ (by exact HQ.out)).mono ?_; rintro e w' ⟨rfl, rfl⟩)
    | (go_at_call 53; go_loud (rw [HW.out]); go_loud (refine (put_good _ _ _ L _ _ _ _ _ (by exact HR.out) HP.out (by omega)).mono ?_); go_loud (rintro e w1 ⟨v, rfl, hown, hb⟩); go_loud (obtain ⟨a3, c3, hv, -, -, -, -⟩ := hown.form); go_loud (subst hv); go_loud (have q1 : w1.cell? ⟨B, 4, none⟩ = some (.slice (some ⟨g, 0, none⟩) 256 256) := (hb.cell (p := ⟨B, 4, none⟩) hBlt).trans f4); go_loud (have q2 : w1.frozen? ⟨B, 4, none⟩ = false := (hb.frozen (p := ⟨B, 4, none⟩) hBlt).trans fz)))
  all_goals
    go_end0
    have hB1 : w1.heap[B]? = _ := (hb.block B hBlt).trans HS.out.1
    refine ⟨rfl, _, blk_setCell hB1 4 _, OB.chg (S := fun i => i = B) hown ((Chg.refl _ w1).setCell _ _ (.inr rfl)) ?_, ?_⟩
    · intro i hi
      have := (World.ownsRow.lt hown i hi).1
      simp at this
      omega
    · exact (Chg.of_below (below_of_drew hb) _).trans ((Chg.refl _ w1).setCell _ _ (.inr rfl))
end Go.Proofs.Ytpdmhnppibfmkaa
