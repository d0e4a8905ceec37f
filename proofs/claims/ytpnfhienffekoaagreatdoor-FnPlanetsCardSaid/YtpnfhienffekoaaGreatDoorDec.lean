/- The reference's decimal numbers. -/
import Derived.Test.YtpnfhienffekoaaGreatDoorTxt
namespace Go.Proofs.YtpnfhienffekoaaGreatDoor
set_option linter.unusedVariables false
set_option linter.unusedSimpArgs false
open Go.RowKit
end Go.Proofs.YtpnfhienffekoaaGreatDoor
