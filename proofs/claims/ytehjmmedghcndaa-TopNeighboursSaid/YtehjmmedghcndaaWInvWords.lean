import Derived.Test.YtehjmmedghcndaaWInv
import Derived.Test.YtehjmmedghcndaaWFootNe
namespace Go.Proofs.YtehjmmedghcndaaW.PrintWords
open Go.RowKit
end Go.Proofs.YtehjmmedghcndaaW.PrintWords
namespace Go.Proofs.YtehjmmedghcndaaW.PrintLast
section
variable {ops : Array Oper} {a : Act} {o og : Oper} {g : Nat} {t : Tmp} {u : Bool}
end
end Go.Proofs.YtehjmmedghcndaaW.PrintLast
