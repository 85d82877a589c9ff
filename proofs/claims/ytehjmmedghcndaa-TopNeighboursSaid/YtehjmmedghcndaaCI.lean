import Derived.Test.YtehjmmedghcndaaCU
import Derived.Test.YtehjmmedghcndaaCV
import Derived.Test.YtehjmmedghcndaaPGx1
/-! selvedgeref18.Take. -/
namespace Go.Proofs.Ytehjmmedghcndaa.PG
open Go.RowKit Go.Proofs.YtehjmmedghcndaaW.PrintWords Go.Proofs.YtehjmmedghcndaaW.PrintLast Go.Proofs.YtehjmmedghcndaaW.PrintMore
attribute [local go_sem] Oper.semAt_some
/-- What the reference's Take answers, for groups that are not too many. -/
def selvedgeref18_Take.f (l : List S42) (a b : Int) : Option (List S42 × Int × Int × Int) := if SmallL l then some (takeS l a b) else none
end Go.Proofs.Ytehjmmedghcndaa.PG
