/- The document's Encode, and both Decodes, of layer 5, walked. -/
import Derived.Test.YtmpnlpheeoadkaaDoorHandleWalks
set_option linter.unusedVariables false
set_option linter.unusedSimpArgs false
namespace Go.Proofs.YtmpnlpheeoadkaaDoor
open Go.RowKit

namespace Handle

end Handle
end Go.Proofs.YtmpnlpheeoadkaaDoor
