/- Plain mathematics of chapter 6: pages that are sealed. Nothing of Go. -/
import Derived.Test.YtocepcibcapfbaaGreatJ06
import Derived.Test.YtocepcibcapfbaaGreatJ07
import Derived.Test.YtocepcibcapfbaaGreatJ00
import Derived.Laws.Entries
import Derived.Laws.BitsLemmas
import Derived.Defers
import Derived.Recover
import Derived.BigRegion
import Derived.BigQuiet
import Derived.Deep.QuietTactic
import Derived.Deep.RegionHeld3
import Derived.Deep.RegionLaw
import Derived.Deep.RegionWith
import Derived.Outline
import Derived.RegionTactic
import Derived.StillTailTactics
namespace Go.Proofs.YtocepcibcapfbaaGreat.P

/-- A page's bytes behind its sum. -/
def tail (k l c : Nat) (body : List UInt8) : List UInt8 :=
  [UInt8.ofNat k, UInt8.ofNat l] ++ be 2 c ++ body ++ List.replicate (248 - body.length) 0
/-- What is wrong with a page's bytes; 0: nothing. -/
def openErr (b : List UInt8) : Int :=
  if b.length ≠ 256 then 1 else if num (b.take 4) ≠ crc (b.drop 4) then 5 else if b.getD 4 0 < 1 ∨ 5 < b.getD 4 0 then 4 else 0
def openKind (b : List UInt8) : Nat := (b.getD 4 0).toNat
def openLevel (b : List UInt8) : Nat := (b.getD 5 0).toNat
def openCount (b : List UInt8) : Nat := (b.getD 6 0).toNat * 256 + (b.getD 7 0).toNat
def openBody (b : List UInt8) : List UInt8 := b.drop 8

end Go.Proofs.YtocepcibcapfbaaGreat.P
/- Superblocks: what they may be, their bytes. Plain law. -/
namespace Go.Proofs.YtocepcibcapfbaaGreat.P
structure Sup where
  g : Int
  p : Int
  r : Int
  h : Int
  b : Int
  l : Int
  s : Int
  f : Int
deriving DecidableEq

end Go.Proofs.YtocepcibcapfbaaGreat.P
/- Superblocks: what a page's bytes say. Plain law. -/
namespace Go.Proofs.YtocepcibcapfbaaGreat.P
def dec (b : List UInt8) : Sup := ⟨(get b 0 8).1, (get b 8 4).1, (get b 12 4).1, (get b 16 2).1, (get b 18 4).1, (get b 22 4).1, (get b 26 4).1, (get b 30 4).1⟩
end Go.Proofs.YtocepcibcapfbaaGreat.P
/- Cells: pieces and kids as bytes, there and back. Plain law. -/
namespace Go.Proofs.YtocepcibcapfbaaGreat.P
structure Q where
  a : Int
  b : Int
  c : Int
  d : Int
deriving DecidableEq

def Q.mayP (x : Q) : Bool := decide (2 ≤ x.a ∧ x.a < 4096 ∧ 1 ≤ x.c ∧ x.c ≤ 248 ∧ 0 ≤ x.b ∧ x.b ≤ 248 - x.c ∧ 0 ≤ x.d ∧ x.d ≤ x.c)
def Q.mayK (x : Q) : Bool := decide (2 ≤ x.a ∧ x.a < 4096 ∧ 1 ≤ x.b ∧ x.b ≤ x.c ∧ x.c ≤ 1048576 ∧ 0 ≤ x.d ∧ x.d ≤ x.c)
def decP (b : List UInt8) : Q := ⟨(get b 0 4).1, (get b 4 2).1, (get b 6 2).1, (get b 8 2).1⟩
def decK (b : List UInt8) : Q := ⟨(get b 0 4).1, (get b 4 4).1, (get b 8 8).1, (get b 16 4).1⟩
def okP (b : List UInt8) : Bool := (decP b).mayP && decide ((get b 10 2).1 = 0)
def okK (b : List UInt8) : Bool := (decK b).mayK
def chunk (sz : Nat) (body : List UInt8) (i : Nat) : List UInt8 := (body.drop (sz * i)).take sz
def cellsOf (dec : List UInt8 → Q) (sz : Nat) (body : List UInt8) (n : Nat) : List Q := (List.range n).map fun i => dec (chunk sz body i)
end Go.Proofs.YtocepcibcapfbaaGreat.P
/- Pages of cells. Plain law. -/
namespace Go.Proofs.YtocepcibcapfbaaGreat.P
/-- What the bytes of a page say. -/
def zeros (l : List UInt8) : Bool := l.all (· == 0)
def goodP (b : List UInt8) : Prop := openKind b = 3 ∧ openLevel b = 0 ∧ 1 ≤ openCount b ∧ openCount b ≤ 20 ∧ zeros ((openBody b).drop (12 * openCount b)) = true ∧ ∀ i, i < openCount b → okP (chunk 12 (openBody b) i) = true
def goodK (b : List UInt8) : Prop := openKind b = 2 ∧ 1 ≤ openLevel b ∧ openLevel b ≤ 32 ∧ 1 ≤ openCount b ∧ openCount b ≤ 12 ∧ zeros ((openBody b).drop (20 * openCount b)) = true ∧ ∀ i, i < openCount b → okK (chunk 20 (openBody b) i) = true
def goodT (b : List UInt8) : Prop := openKind b = 4 ∧ openLevel b = 0 ∧ 1 ≤ openCount b ∧ openCount b ≤ 248 ∧ zeros ((openBody b).drop (openCount b)) = true
instance (b : List UInt8) : Decidable (goodP b) := by unfold goodP; infer_instance
instance (b : List UInt8) : Decidable (goodK b) := by unfold goodK; infer_instance
instance (b : List UInt8) : Decidable (goodT b) := by unfold goodT; infer_instance
def pcErr (b : List UInt8) : Int := if openErr b ≠ 0 then openErr b else if goodP b then 0 else 4
def pcL (b : List UInt8) : List Q := if pcErr b = 0 then cellsOf decP 12 (openBody b) (openCount b) else []
def kdErr (b : List UInt8) : Int := if openErr b ≠ 0 then openErr b else if goodK b then 0 else 4
def kdL (b : List UInt8) : List Q := if kdErr b = 0 then cellsOf decK 20 (openBody b) (openCount b) else []
def kdV (b : List UInt8) : Int := if kdErr b = 0 then openLevel b else 0
def txErr (b : List UInt8) : Int := if openErr b ≠ 0 then openErr b else if goodT b then 0 else 4
def txL (b : List UInt8) : List UInt8 := if txErr b = 0 then (openBody b).take (openCount b) else []
end Go.Proofs.YtocepcibcapfbaaGreat.P
/- Chains: bytes on pages one behind the other. Plain law. -/
namespace Go.Proofs.YtocepcibcapfbaaGreat.P
def nxt (b : List UInt8) : Int := (get (openBody b) 0 4).1
def goodC (b : List UInt8) : Prop := openKind b = 5 ∧ openLevel b = 0 ∧ 1 ≤ openCount b ∧ openCount b ≤ 244 ∧ (nxt b = 0 ∨ 2 ≤ nxt b ∧ nxt b < 4096 ∧ openCount b = 244) ∧ zeros ((openBody b).drop (4 + openCount b)) = true
instance (b : List UInt8) : Decidable (goodC b) := by unfold goodC; infer_instance
end Go.Proofs.YtocepcibcapfbaaGreat.P
/- Devices walked through: what is reached. Plain law: the walk. -/
namespace Go.Proofs.YtocepcibcapfbaaGreat.P

/-- Page n of an image. -/
def pg (img : List UInt8) (n : Nat) : List UInt8 := (img.drop (256 * n)).take 256
/-- What was reached: of each page its kind (0: it was not); the pieces, their text. -/
structure St where
  met : Nat → Nat
  ps : List Q
  tx : List UInt8
def St.hit (st : St) (n k : Nat) : St := { st with met := fun m => if m = n then k else st.met m }
/-- What lies below a page. -/
structure Sm where
  p : Int
  b : Int
  l : Int
deriving DecidableEq
def Sm.add (x y : Sm) : Sm := ⟨x.p + y.p, x.b + y.b, x.l + y.l⟩
def nls (t : List UInt8) : Nat := t.count 10
def free? (np : Nat) (st : St) (n : Nat) : Bool := decide (st.met n = 0 ∧ 2 ≤ n ∧ n < np)
/-- May page n be a text page now? -/
def txAt (img : List UInt8) (np : Nat) (st : St) (n : Nat) : Option St :=
  if st.met n = 4 then some st else if free? np st n = true ∧ txErr (pg img n) = 0 then some (st.hit n 4) else none
def cutP (img : List UInt8) (p : Q) : List UInt8 := slice (txL (pg img p.a.toNat)) p.b.toNat p.c.toNat
/-- lim: no more than a text may have. -/
def piece (img : List UInt8) (np : Nat) (lim : Bool) (st : St) (p : Q) : Option St :=
  (txAt img np st p.a.toNat).bind fun s =>
    if p.b.toNat + p.c.toNat ≤ (txL (pg img p.a.toNat)).length ∧ (nls (cutP img p) : Int) = p.d ∧ (lim = true → (s.tx ++ cutP img p).length ≤ 1048576) then some { s with ps := s.ps ++ [p], tx := s.tx ++ cutP img p } else none
def smOf (l : List Q) : Sm := l.foldl (fun s p => s.add ⟨1, p.c, p.d⟩) ⟨0, 0, 0⟩
def leafW (img : List UInt8) (np : Nat) (lim : Bool) (n : Nat) (root : Bool) (st : St) : Option (Sm × St) :=
  if free? np st n = true ∧ pcErr (pg img n) = 0 ∧ (root = true ∨ 10 ≤ (pcL (pg img n)).length) then
    ((pcL (pg img n)).foldlM (piece img np lim) (st.hit n 3)).map fun s => (smOf (pcL (pg img n)), s)
  else none
def kidStep (f : Nat → Bool → St → Option (Sm × St)) (x : Sm × St) (k : Q) : Option (Sm × St) :=
  (f k.a.toNat false x.2).bind fun y => if y.1 = ⟨k.b, k.c, k.d⟩ then some (x.1.add y.1, y.2) else none
def below (img : List UInt8) (np : Nat) (lim : Bool) : Nat → Nat → Bool → St → Option (Sm × St)
  | 0, n, root, st => leafW img np lim n root st
  | lv + 1, n, root, st =>
    if free? np st n = true ∧ kdErr (pg img n) = 0 ∧ kdV (pg img n) = ((lv + 1 : Nat) : Int) ∧ 2 ≤ (kdL (pg img n)).length ∧ (root = true ∨ 6 ≤ (kdL (pg img n)).length) then
      (kdL (pg img n)).foldlM (kidStep (below img np lim lv)) (⟨0, 0, 0⟩, st.hit n 2)
    else none
/-- What a walk tells. -/
structure Rep where
  ps : List Q
  tx : List UInt8
  state : List UInt8
  met : Nat → Nat
end Go.Proofs.YtocepcibcapfbaaGreat.P
/- The device: Read. -/
namespace Go.Proofs.YtocepcibcapfbaaGreat
set_option linter.unusedVariables false
set_option linter.unusedSimpArgs false
open Go.RowKit

theorem pg_length (img : List UInt8) (np n : Nat) (hl : img.length = 256 * np) (h : n < np) : (P.pg img n).length = 256 := by
  unfold P.pg
  rw [List.length_take, List.length_drop]
  omega
theorem RV.page {w : World} {gn np : Nat} {img : List UInt8} (h : RV w (some ⟨gn, 0, none⟩) np 256 (bvs img)) (n : Nat) (hn : n < np) : Rd w (some ⟨gn, n * 256, none⟩) 256 (P.pg img n) := by
  have hl : img.length = np * 256 := by have := h.1; rwa [bvs_length] at this
  refine ⟨pg_length img np n (by omega) hn, by unfold maxLen; omega, fun i hi => ⟨_, rfl, ?_⟩⟩
  have hi2 : i < 256 := by rw [pg_length img np n (by omega) hn] at hi; exact hi
  obtain ⟨q, e, hq⟩ := h.2.2 (n * 256 + i) (by rw [bvs_length]; omega)
  cases e
  have e1 : (⟨gn, n * 256, none⟩ : Addr).add i = (⟨gn, 0, none⟩ : Addr).add (n * 256 + i) := by unfold Addr.add; split <;> split <;> simp_all
  rw [e1, hq]
  have hb := bvs_at img (n * 256 + i) (by omega)
  rw [List.getElem?_eq_getElem (by rw [bvs_length]; omega)] at hb
  rw [hb]
  congr 1
  unfold P.pg
  simp [Nat.mul_comm]
end Go.Proofs.YtocepcibcapfbaaGreat
/- The device: op, where a page is read. -/
namespace Go.Proofs.YtocepcibcapfbaaGreat
set_option linter.unusedVariables false
set_option linter.unusedSimpArgs false
open Go.RowKit

theorem op1_idle (p q r : Addr) (w : World) :
    CallsD Tryz.prog 84 #[.pointer (some p), .pointer (some q), .pointer (some r)] .returning w fun e u' w' => e = .returned (.tuple #[]) ∧ u' = .returning ∧ w' = w := by
  refine callsD_of_wpS Tryz.func84 rfl fun c₀ cs hu => ?_
  apply wpS_seq
  apply wpS_region
  simp [wpOpsS, go_sem, recoverD, hu, Tryz.ntmps84, Exit.thenS]
  apply wpS_seq
  apply wpS_region
  simp [wpOpsS, go_sem, Exit.thenS]
  refine wpS_cond (t := false) (by simp [Act.eval, Array.replicate]) ?_
  simp only [Bool.false_eq_true, if_false]
  refine wpS_of_wp (wp_skip ?_)
  cases c₀
  simp_all [bodyPostS, results, Tryz.results84]
theorem setCell_chg (w : World) (d k : Nat) (v : Value) : Chg (fun j => j = d) w (w.setCell ⟨d, k, none⟩ v) := (Chg.refl _ w).setCell _ _ (.inr rfl)
end Go.Proofs.YtocepcibcapfbaaGreat
