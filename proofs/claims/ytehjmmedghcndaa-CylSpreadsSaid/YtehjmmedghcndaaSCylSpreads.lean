import Derived.Test.YtehjmmedghcndaaGC
namespace Go.Proofs.Ytehjmmedghcndaa.Pure
open Go.RowKit
open Go.Proofs.Ytehjmmedghcndaa.PG Go.Proofs.YtehjmmedghcndaaW.PrintWords Go.Proofs.YtehjmmedghcndaaW.PrintLast Go.Proofs.YtehjmmedghcndaaW.PrintMore
/-- What is left of the law CylSpreads: plain Lean. -/
def CylSpreads_ : Prop := ∀ (l0 : List Int) (l1 : List Int) (a2 : Int), l0.length ≤ maxLen → (∀ y ∈ l0, (Lit.int .u8 y).wf = true) → l1.length ≤ maxLen → (∀ y ∈ l1, (Lit.int .u8 y).wf = true) → (Lit.int .u8 a2).wf = true → ∃ k, selvedgelaw18_CylSpreads.f k l0 l1 a2 = some true
end Go.Proofs.Ytehjmmedghcndaa.Pure
