/- The device: Read. -/
import Derived.Test.YtocepcibcapfbaaJ07
import Derived.Test.YtocepcibcapfbaaJ08
import Derived.Test.YtocepcibcapfbaaJ01
import Derived.Laws.Entries
import Derived.Laws.BitsLemmas
import Derived.Defers
import Derived.Recover
import Derived.BigRegion
import Derived.BigQuiet
import Derived.Deep.QuietTactic
import Derived.Deep.RegionHeld3
import Derived.Deep.RegionLaw
import Derived.Deep.RegionWith
import Derived.Outline
import Derived.RegionTactic
import Derived.StillTailTactics
import Derived.Test.YtocepcibcapfbaaJ10
namespace Go.Proofs.Ytocepcibcapfbaa
set_option linter.unusedVariables false
set_option linter.unusedSimpArgs false
open Go.RowKit

theorem pg_length (img : List UInt8) (np n : Nat) (hl : img.length = 256 * np) (h : n < np) : (P.pg img n).length = 256 := by
  unfold P.pg
  rw [List.length_take, List.length_drop]
  omega
theorem RV.page {w : World} {gn np : Nat} {img : List UInt8} (h : RV w (some ⟨gn, 0, none⟩) np 256 (bvs img)) (n : Nat) (hn : n < np) : Rd w (some ⟨gn, n * 256, none⟩) 256 (P.pg img n) := by
  have hl : img.length = np * 256 := by have := h.1; rwa [bvs_length] at this
  refine ⟨pg_length img np n (by omega) hn, by unfold maxLen; omega, fun i hi => ⟨_, rfl, ?_⟩⟩
  have hi2 : i < 256 := by rw [pg_length img np n (by omega) hn] at hi; exact hi
  obtain ⟨q, e, hq⟩ := h.2.2 (n * 256 + i) (by rw [bvs_length]; omega)
  cases e
  have e1 : (⟨gn, n * 256, none⟩ : Addr).add i = (⟨gn, 0, none⟩ : Addr).add (n * 256 + i) := by unfold Addr.add; split <;> split <;> simp_all
  rw [e1, hq]
  have hb := bvs_at img (n * 256 + i) (by omega)
  rw [List.getElem?_eq_getElem (by rw [bvs_length]; omega)] at hb
  rw [hb]
  congr 1
  unfold P.pg
  simp [Nat.mul_comm]
end Go.Proofs.Ytocepcibcapfbaa
