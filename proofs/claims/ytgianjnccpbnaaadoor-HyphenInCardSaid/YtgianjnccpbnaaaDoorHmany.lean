/- Chapter 20: the walk of HyphenMany: more than 512 patterns are too many, whatever they are. -/
import Derived.Test.YtgianjnccpbnaaaDoorRows
import Derived.Test.YtgianjnccpbnaaaDoorLib
namespace Go.Proofs.YtgianjnccpbnaaaDoor
open Go.ChangeShapes Go.WideShapes Go.ChangeAt Go.RowKit
set_option maxRecDepth 100000
set_option linter.unusedSimpArgs false

theorem TS : SliceOf Tryd.prog 30 9 1 16 := sliceOf_mk Tryd.underlying30 (z := .string ⟨#[]⟩) (by kernel_rfl) rfl (by omega) (by omega)
theorem many_any (A : Option Addr) (n c : Nat) (h : 512 < n) (hn : n ≤ 140737488355328) (w : World) :
    Calls Tryd.prog 11 #[.slice A n c] w fun e w' => e = .returned (.tuple #[.pointer none, .int .i64 0, .int .i64 5]) ∧ Below w.heap.size w w' := by
  go_enter Tryd.func11, Tryd.ntmps11
  go_wp2_with fail
  go_ret3
  exact ⟨rfl, Below.refl _ _⟩
theorem num20_any (e : Int) (w : World) : Calls Tryd.prog 13 #[.int .i64 e] w fun r w' => r = .returned (.int .i64 e) ∧ Below w.heap.size w w' := by
  go_enter Tryd.func13, Tryd.ntmps13
  go_wp2_with fail
  go_ret
  exact ⟨rfl, Below.refl _ _⟩
theorem cells_one (w : World) (v : Value) (t : TypeId) : ∀ j u, [v][j]? = some u → (w.alloc (.cells #[v] t)).cell? ⟨w.heap.size, j, none⟩ = some u := by
  intro j u h
  rw [cell_of_row _ _ _ _ _ _ (heap_alloc_new w _)]
  simpa using h

end Go.Proofs.YtgianjnccpbnaaaDoor
