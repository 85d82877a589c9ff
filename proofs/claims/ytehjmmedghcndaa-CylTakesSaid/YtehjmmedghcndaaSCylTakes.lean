import Derived.Test.YtehjmmedghcndaaG9
namespace Go.Proofs.Ytehjmmedghcndaa.Pure
open Go.RowKit
open Go.Proofs.Ytehjmmedghcndaa.PG Go.Proofs.YtehjmmedghcndaaW.PrintWords Go.Proofs.YtehjmmedghcndaaW.PrintLast Go.Proofs.YtehjmmedghcndaaW.PrintMore
/-- What is left of the law CylTakes: plain Lean. -/
def CylTakes_ : Prop := ∀ (l0 : List (S42)) (x1 : S24), l0.length ≤ maxLen → (∀ y ∈ l0, ((Lit.int .i64 y.f0).wf = true ∧ (Lit.int .i64 y.f1).wf = true ∧ (Lit.int .i64 y.f2).wf = true ∧ (Lit.int .i64 y.f3).wf = true ∧ (Lit.int .i64 y.f4).wf = true ∧ (y.f5.length ≤ maxLen ∧ ∀ y4 ∈ y.f5, (Lit.int .i64 y4).wf = true) ∧ (y.f6.length ≤ maxLen ∧ ∀ y4 ∈ y.f6, (Lit.int .i64 y4).wf = true))) → ((Lit.int .i64 x1.f0).wf = true ∧ (Lit.int .i64 x1.f1).wf = true) → ∃ k, selvedgelaw18_CylTakes.f k l0 x1.f0 x1.f1 = some true
end Go.Proofs.Ytehjmmedghcndaa.Pure
