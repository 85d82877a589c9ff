import Derived.Test.YtehjmmedghcndaaJ28
import Derived.Test.YtehjmmedghcndaaJ24
/-! The reference's first. -/
namespace Go.Proofs.Ytehjmmedghcndaa.PG
open Go.RowKit Go.Proofs.YtehjmmedghcndaaW.PrintWords Go.Proofs.YtehjmmedghcndaaW.PrintLast Go.Proofs.YtehjmmedghcndaaW.PrintMore
attribute [local go_sem] Oper.semAt_some
def selvedgeref18_first.f (l : List S42) (g : Int) : Option (List S42 × Int × Int × Int) := if wholeB l = true ∧ 0 ≤ g ∧ g < (l.length : Int) ∧ (rd_T42 l g).f3 ≠ 0 then some (l.set g.toNat (firstC (rd_T42 l g)), g, (mex (rd_T42 l g).f6 : Int), 0) else none
end Go.Proofs.Ytehjmmedghcndaa.PG
