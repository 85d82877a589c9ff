import Derived.Test.YtfbjeiloefocgaaOpen
import Derived.Test.YtfbjeiloefocgaaPVx0
import Derived.KernelRfl
namespace Go.Proofs.Ytfbjeiloefocgaa.ArmFirstR
open Go.RowKit
open Go.Proofs.Ytfbjeiloefocgaa.PV Go.Proofs.Ytfbjeiloefocgaa.CC Go.Proofs.YtfbjeiloefocgaaW.PrintWords Go.Proofs.YtfbjeiloefocgaaW.PrintLast Go.Proofs.YtfbjeiloefocgaaW.PrintMore
end Go.Proofs.Ytfbjeiloefocgaa.ArmFirstR
