/- Chapters 22, 23: a font's maps, and what it has, as plain functions; how a font lies in memory. -/
import Derived.Test.YteedngkbcbojjaaLib
namespace Go.Proofs.Yteedngkbcbojjaa
open Go.ChangeShapes Go.WideShapes Go.ChangeAt Go.RowKit

def mnth (ms : List (Int × Int)) (j : Nat) : Int × Int := ms.getD j (0, 0)
/-- the glyph of the first map of a code point from the j-th on; 0 if there is none -/
def glyphF (ms : List (Int × Int)) (r : Int) : Nat → Nat → Int
  | 0, _ => 0
  | d + 1, j => if j < ms.length then (if (mnth ms j).1 = r then (mnth ms j).2 else glyphF ms r d (j + 1)) else 0
def glyphOf (ms : List (Int × Int)) (r : Int) (j : Nat) : Int := glyphF ms r (ms.length - j) j
theorem glyphOf_yes {ms : List (Int × Int)} {r : Int} {j : Nat} (h : j < ms.length) (e : (mnth ms j).1 = r) : glyphOf ms r j = (mnth ms j).2 := by
  unfold glyphOf
  obtain ⟨d, hd⟩ : ∃ d, ms.length - j = d + 1 := ⟨ms.length - j - 1, by omega⟩
  rw [hd]
  simp [glyphF, h, e]
theorem glyphOf_no {ms : List (Int × Int)} {r : Int} {j : Nat} (h : j < ms.length) (e : (mnth ms j).1 ≠ r) : glyphOf ms r j = glyphOf ms r (j + 1) := by
  unfold glyphOf
  obtain ⟨d, hd⟩ : ∃ d, ms.length - j = d + 1 := ⟨ms.length - j - 1, by omega⟩
  rw [hd, show ms.length - (j + 1) = d by omega]
  simp [glyphF, h, e]
theorem glyphOf_end {ms : List (Int × Int)} {r : Int} {j : Nat} (h : ms.length ≤ j) : glyphOf ms r j = 0 := by
  unfold glyphOf
  rw [show ms.length - j = 0 by omega]
  rfl

/-- the slice value '.slice A n c' reads as the maps ms -/
def MapsAt (w : World) (B : Nat) (A : Option Addr) (n : Nat) (ms : List (Int × Int)) : Prop :=
  ms.length = n ∧ (0 < n → ∃ ad, A = some ad ∧ ad.block < B ∧ ∀ j, j < n → w.cell? (ad.add (j * 2)) = some (.int .i32 (mnth ms j).1) ∧ w.cell? (ad.add (j * 2 + 1)) = some (.int .i64 (mnth ms j).2))
section
variable {w w' : World} {B n : Nat} {A : Option Addr} {ms : List (Int × Int)}
theorem MapsAt.below (h : MapsAt w B A n ms) (hb : Below B w w') : MapsAt w' B A n ms :=
  ⟨h.1, fun hn => by
    obtain ⟨ad, e, hB, hc⟩ := h.2 hn
    refine ⟨ad, e, hB, fun j hj => ⟨?_, ?_⟩⟩
    · exact (hb.cell (by rw [block_of_add]; exact hB)).trans (hc j hj).1
    · exact (hb.cell (by rw [block_of_add]; exact hB)).trans (hc j hj).2⟩
theorem MapsAt.later (h : MapsAt w w.heap.size A n ms) (hb : Below w.heap.size w w') : MapsAt w' w'.heap.size A n ms :=
  ⟨(h.below hb).1, fun hn => by
    obtain ⟨ad, e, hB, hc⟩ := (h.below hb).2 hn
    exact ⟨ad, e, Nat.lt_of_lt_of_le hB hb.size, hc⟩⟩
end
/-- a font by value -/
abbrev fontV (em : Int) (G : Option Addr) (gn gc : Nat) (M : Option Addr) (mn mc : Nat) (L : Option Addr) (ln lc : Nat) (F : Option Addr) (fn fc : Nat) (S : Option Addr) (sn sc : Nat) : Value :=
  .agg #[.int .i64 em, .slice G gn gc, .slice M mn mc, .slice L ln lc, .slice F fn fc, .slice S sn sc]
end Go.Proofs.Yteedngkbcbojjaa
