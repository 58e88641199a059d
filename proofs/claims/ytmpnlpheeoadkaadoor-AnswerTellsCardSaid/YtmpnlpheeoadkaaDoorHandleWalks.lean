/- Right, Encode, Decode of package handle, and of its ref, walked. -/
import Derived.Test.YtmpnlpheeoadkaaDoorRows
import Derived.Test.YtmpnlpheeoadkaaDoorWords
import Derived.Test.YtmpnlpheeoadkaaDoorHandlePure
import Derived.IntWalk
set_option linter.unusedVariables false
set_option linter.unusedSimpArgs false
namespace Go.Proofs.YtmpnlpheeoadkaaDoor
open Go.RowKit

namespace Handle

def hd (h : Hd) : Array Value := #[.int .i64 h.k, .int .i64 h.t, .int .i64 h.i, .int .i64 h.g]

end Handle
end Go.Proofs.YtmpnlpheeoadkaaDoor
