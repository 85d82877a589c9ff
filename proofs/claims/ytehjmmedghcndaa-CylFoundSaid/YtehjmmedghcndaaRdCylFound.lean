import Derived.Test.YtehjmmedghcndaaOpen
import Derived.Test.YtehjmmedghcndaaPGx0
import Derived.KernelRfl
namespace Go.Proofs.Ytehjmmedghcndaa.CylFoundR
open Go.RowKit
open Go.Proofs.Ytehjmmedghcndaa.PG Go.Proofs.YtehjmmedghcndaaW.PrintWords Go.Proofs.YtehjmmedghcndaaW.PrintLast Go.Proofs.YtehjmmedghcndaaW.PrintMore
end Go.Proofs.Ytehjmmedghcndaa.CylFoundR
