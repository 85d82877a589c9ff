import Derived.Test.YtehjmmedghcndaaGN
namespace Go.Proofs.Ytehjmmedghcndaa.Pure
open Go.RowKit
open Go.Proofs.Ytehjmmedghcndaa.PG Go.Proofs.YtehjmmedghcndaaW.PrintWords Go.Proofs.YtehjmmedghcndaaW.PrintLast Go.Proofs.YtehjmmedghcndaaW.PrintMore
/-- What is left of the law TopNeighbours: plain Lean. -/
def TopNeighbours_ : Prop := ∀ (x0 : S65) (a1 : Int), ((Lit.int .u8 x0.f0).wf = true ∧ (Lit.int .u8 x0.f1).wf = true ∧ (Lit.int .u8 x0.f2).wf = true) → (Lit.int .u8 a1).wf = true → ∃ k, selvedgetop_TopNeighbours.f k x0.f0 x0.f1 x0.f2 a1 = some true
end Go.Proofs.Ytehjmmedghcndaa.Pure
