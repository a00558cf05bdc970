/- Chapter 36: the reference's Joins. -/
import Derived.Test.YtmbgeeiidpllcaaDoorJref
namespace Go.Proofs.YtmbgeeiidpllcaaDoor
open Go.ChangeShapes Go.WideShapes Go.ChangeAt Go.RowKit
set_option maxRecDepth 100000

end Go.Proofs.YtmbgeeiidpllcaaDoor
