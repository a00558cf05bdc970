/- A slice of texts that came in. -/
import Derived.Test.YtgianjnccpbnaaaDoorHnp
import Derived.SliceStrings
namespace Go.Proofs.YtgianjnccpbnaaaDoor
open Go.ChangeShapes Go.WideShapes Go.ChangeAt Go.RowKit
theorem strsIn_nil (w : World) : StrsIn w none 0 0 [] := ⟨rfl, Nat.le_refl _, fun h => absurd h (by omega)⟩
theorem strsIn_of_row {w : World} {a : Addr} {len cap : Nat} {zs : List ByteArray} (hl : len ≤ cap) (hz : zs.length = cap)
    (hc : ∀ i, i < zs.length → w.cell? (a.add i) = some (.string (zs.getD i ByteArray.empty))) : StrsIn w (some a) len cap (zs.take len) := by
  refine ⟨by rw [List.length_take, hz]; omega, hl, fun hn => ⟨a, rfl, ?_, fun j hj => ?_⟩⟩
  · have := block_lt_of_cell (hc 0 (by omega))
    rwa [block_of_add] at this
  · rw [hc j (by omega)]
    have h1 : j < zs.length := by omega
    simp [List.getD_eq_getElem?_getD, hj, h1]
end Go.Proofs.YtgianjnccpbnaaaDoor
