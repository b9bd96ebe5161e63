/- Itoa: laid by the kit's own tool. -/
import Derived.Shelf.Strconv.Itoa3
import Derived.Test.YtdfpmolkpkpboaaDoorProg
set_option linter.unusedVariables false
set_option maxRecDepth 2000
namespace Go.Proofs
end Go.Proofs
