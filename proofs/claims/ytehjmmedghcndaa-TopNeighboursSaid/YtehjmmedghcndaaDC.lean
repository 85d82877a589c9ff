import Derived.Test.YtehjmmedghcndaaDA
import Derived.Test.YtehjmmedghcndaaGB
/-! cyl, plain: Free, Dir -/
namespace Go.Proofs.Ytehjmmedghcndaa.PG
open Go.RowKit Go.Proofs.YtehjmmedghcndaaW.PrintWords Go.Proofs.YtehjmmedghcndaaW.PrintLast Go.Proofs.YtehjmmedghcndaaW.PrintMore
end Go.Proofs.Ytehjmmedghcndaa.PG
