/- Chapter 4: the directions' classes of a text, both ways. -/
import Derived.Test.YtmbgeeiidpllcaaDoorOfs
namespace Go.Proofs.YtmbgeeiidpllcaaDoor
open Go.ChangeShapes Go.WideShapes Go.ChangeAt Go.RowKit
set_option maxRecDepth 100000

def bidiOf (r : Int) : Int := (propOf r).bidi
theorem TI : SliceOf Tryd.prog 33 3 1 8 := sliceOf_mk Tryd.underlying33 (z := .int .i64 0) (by kernel_rfl) rfl (by omega) (by omega)

end Go.Proofs.YtmbgeeiidpllcaaDoor
