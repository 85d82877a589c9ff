import Derived.Test.YtehjmmedghcndaaGK
import Derived.Test.YtehjmmedghcndaaQIn
section
namespace Go.Proofs.Ytehjmmedghcndaa.Pure
open Go.RowKit
open Go.Proofs.Ytehjmmedghcndaa.PG Go.Proofs.YtehjmmedghcndaaW.PrintWords Go.Proofs.YtehjmmedghcndaaW.PrintLast Go.Proofs.YtehjmmedghcndaaW.PrintMore
/-- What is left of the law CylInodes: plain Lean. -/
def CylInodes_ : Prop := ∀ (l0 : List (S42)) (a1 : Int) (x2 : S24), l0.length ≤ maxLen → (∀ y ∈ l0, ((Lit.int .i64 y.f0).wf = true ∧ (Lit.int .i64 y.f1).wf = true ∧ (Lit.int .i64 y.f2).wf = true ∧ (Lit.int .i64 y.f3).wf = true ∧ (Lit.int .i64 y.f4).wf = true ∧ (y.f5.length ≤ maxLen ∧ ∀ y4 ∈ y.f5, (Lit.int .i64 y4).wf = true) ∧ (y.f6.length ≤ maxLen ∧ ∀ y4 ∈ y.f6, (Lit.int .i64 y4).wf = true))) → (Lit.int .i64 a1).wf = true → ((Lit.int .i64 x2.f0).wf = true ∧ (Lit.int .i64 x2.f1).wf = true) → ∃ k, selvedgelaw18_CylInodes.f k l0 a1 x2.f0 x2.f1 = some true
end Go.Proofs.Ytehjmmedghcndaa.Pure
end
section
namespace Go.Proofs.Ytehjmmedghcndaa.Pure
open Go.RowKit
open Go.Proofs.Ytehjmmedghcndaa.PG Go.Proofs.YtehjmmedghcndaaW.PrintWords Go.Proofs.YtehjmmedghcndaaW.PrintLast Go.Proofs.YtehjmmedghcndaaW.PrintMore
theorem CylInodes : CylInodes_ := fun l0 a1 x2 _ _ _ _ => ⟨3100, cylInodes_is l0 a1 x2.f0 x2.f1⟩
end Go.Proofs.Ytehjmmedghcndaa.Pure
end
