/- Chapter 10: the paragraphs of a text, both ways. -/
import Derived.Test.YtmbgeeiidpllcaaDoorParl
import Derived.Test.YtmbgeeiidpllcaaDoorBid
import Derived.Test.YtmbgeeiidpllcaaDoorOwn2
namespace Go.Proofs.YtmbgeeiidpllcaaDoor
open Go.ChangeShapes Go.WideShapes Go.ChangeAt Go.RowKit
set_option maxRecDepth 100000
set_option linter.unusedSimpArgs false

/-- a call that hands back new ranges -/
def NewCuts (w : World) (ps : List (Nat × Nat)) (r : Ending) (w' : World) : Prop :=
  ∃ (A : Option Addr) (c : Nat), r = .returned (.slice A ps.length c) ∧ OwnV w' w.heap.size 27 2 A ps.length c (cutsV ps) ∧ Below w.heap.size w w'
theorem cells_new2 (w : World) (a b : Value) (t : TypeId) : ∀ j u, [a, b][j]? = some u → (w.alloc (.cells #[a, b] t)).cell? ⟨w.heap.size, j, none⟩ = some u := by
  intro j u h
  rw [cell_of_row _ _ _ _ _ _ (heap_alloc_new w _)]
  simpa using h
theorem two_one (a b : Int) : ∀ u ∈ [Value.int .i64 a, Value.int .i64 b], u.oneCell' = true := by
  intro u hu
  simp at hu
  rcases hu with rfl | rfl <;> rfl
theorem bidi_at {xs : List Int} {k : Nat} (h : k < xs.length) : nth (xs.map bidiOf) k = bidiAt xs k := by
  unfold nth bidiAt bidiOf nth
  simp [h]
theorem cutsV_push (ps : List (Nat × Nat)) (f k : Nat) : cutsV ps ++ [.int .i64 f, .int .i64 ((k : Int) + 1)] = cutsV (ps ++ [(f, k + 1)]) := by
  rw [cutsV_app, cutsV_one]
  congr 3
theorem ownV_congr {w : World} {B n n' c size : Nat} {e : TypeId} {A : Option Addr} {xs ys : List Value} (h : OwnV w B e size A n c xs) (hx : xs = ys) (hn : n = n') : OwnV w B e size A n' c ys := by subst hx; subst hn; exact h
theorem OwnV.moreB {w : World} {B B' n c size : Nat} {e : TypeId} {A : Option Addr} {vs : List Value} (h : OwnV w B e size A n c vs) (hb : B' ≤ B) : OwnV w B' e size A n c vs := by
  refine ⟨h.1, ?_⟩
  rcases h.2 with h2 | ⟨g, cap, cur, hv, hg, r⟩
  · exact .inl h2
  · exact .inr ⟨g, cap, cur, hv, by omega, r⟩

end Go.Proofs.YtmbgeeiidpllcaaDoor
