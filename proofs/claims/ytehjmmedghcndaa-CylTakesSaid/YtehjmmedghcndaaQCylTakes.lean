import Derived.Test.YtehjmmedghcndaaSCylTakes
import Derived.Test.YtehjmmedghcndaaQTk
namespace Go.Proofs.Ytehjmmedghcndaa.Pure
open Go.RowKit
open Go.Proofs.Ytehjmmedghcndaa.PG Go.Proofs.YtehjmmedghcndaaW.PrintWords Go.Proofs.YtehjmmedghcndaaW.PrintLast Go.Proofs.YtehjmmedghcndaaW.PrintMore
theorem CylTakes : CylTakes_ := fun l0 x1 _ _ _ => ⟨3004, cylTakes_is l0 x1.f0 x1.f1⟩
end Go.Proofs.Ytehjmmedghcndaa.Pure
