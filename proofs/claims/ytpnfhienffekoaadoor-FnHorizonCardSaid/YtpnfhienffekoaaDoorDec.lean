/- The reference's decimal numbers. -/
import Derived.Test.YtpnfhienffekoaaDoorTxt
namespace Go.Proofs.YtpnfhienffekoaaDoor
set_option linter.unusedVariables false
set_option linter.unusedSimpArgs false
open Go.RowKit
end Go.Proofs.YtpnfhienffekoaaDoor
