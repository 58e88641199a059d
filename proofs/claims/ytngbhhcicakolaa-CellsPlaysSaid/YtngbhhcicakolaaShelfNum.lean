/- Contracts of the library's shelf, laid at this program's numbers (by the kit's own commands). -/
import Derived.Test.YtngbhhcicakolaaRows
import Derived.Shelf.Strings.Builder1
import Derived.Shelf.Strconv.Itoa0
import Derived.Shelf.Strconv.Itoa1
import Derived.Shelf.LaysM
import Derived.Shelf.Strconv.Itoa2
set_option linter.unusedVariables false
namespace Go.Proofs.Ytngbhhcicakolaa
open Go.Shelf

namespace Snum

end Snum
end Go.Proofs.Ytngbhhcicakolaa
