import Derived.Test.YtfbjeiloefocgaaOpen
import Derived.Test.YtfbjeiloefocgaaPWx0
import Derived.KernelRfl
namespace Go.Proofs.Ytfbjeiloefocgaa.ArmScanR
open Go.RowKit
open Go.Proofs.Ytfbjeiloefocgaa.PW Go.Proofs.Ytfbjeiloefocgaa.CC Go.Proofs.YtfbjeiloefocgaaW.PrintWords Go.Proofs.YtfbjeiloefocgaaW.PrintLast Go.Proofs.YtfbjeiloefocgaaW.PrintMore
end Go.Proofs.Ytfbjeiloefocgaa.ArmScanR
