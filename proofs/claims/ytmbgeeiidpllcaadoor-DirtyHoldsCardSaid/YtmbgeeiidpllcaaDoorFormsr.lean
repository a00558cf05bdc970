/- Chapter 36: the reference's Forms. -/
import Derived.Test.YtmbgeeiidpllcaaDoorForms
namespace Go.Proofs.YtmbgeeiidpllcaaDoor
open Go.ChangeShapes Go.WideShapes Go.ChangeAt Go.RowKit
set_option maxRecDepth 100000

end Go.Proofs.YtmbgeeiidpllcaaDoor
