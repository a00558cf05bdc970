/- Chapter 36: the reference's joining functions. -/
import Derived.Test.YtmbgeeiidpllcaaDoorJoin
namespace Go.Proofs.YtmbgeeiidpllcaaDoor
open Go.ChangeShapes Go.WideShapes Go.ChangeAt Go.RowKit
set_option maxRecDepth 100000

def joinB (x y : Int) : Bool := (x == 1 || x == 3 || x == 4) && (y == 1 || y == 2 || y == 4)
/-- an index, or -1 -/
def oI : Option Nat → Int | some j => j | none => -1

theorem joinB_eq (x y : Int) : joinB x y = (joinsB x true && joinsB y false) := by
  unfold joinB joinsB
  rw [Bool.eq_iff_iff]
  simp
  omega
theorem jn_tr {xs : List Int} {k : Nat} (h : tr (nth xs k) = true) : jnA xs k = false ∧ jnB xs k = false := by
  have h5 : joinOf (nth xs k) = 5 := by simpa [joinOf] using tr_true h
  unfold jnA jnB
  rw [h5]
  exact ⟨by simp [joinsB], by simp [joinsB]⟩
theorem jnA_none {xs : List Int} {k : Nat} (h : prv xs k = none) : jnA xs k = false := by
  unfold jnA nbB; rw [h]; simp [joinsB]
theorem jnB_none {xs : List Int} {k : Nat} (h : nxt xs (k + 1) = none) : jnB xs k = false := by
  unfold jnB nbF; rw [h]; simp [joinsB]
theorem jnA_some {xs : List Int} {k j : Nat} (h : prv xs k = some j) : jnA xs k = joinB (joinOf (nth xs j)) (joinOf (nth xs k)) := by
  unfold jnA nbB; rw [h, joinB_eq, Bool.and_comm]
theorem jnB_some {xs : List Int} {k j : Nat} (h : nxt xs (k + 1) = some j) : jnB xs k = joinB (joinOf (nth xs k)) (joinOf (nth xs j)) := by
  unfold jnB nbF; rw [h, joinB_eq]

end Go.Proofs.YtmbgeeiidpllcaaDoor
