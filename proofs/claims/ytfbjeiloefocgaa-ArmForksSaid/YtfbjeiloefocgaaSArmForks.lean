import Derived.Test.YtfbjeiloefocgaaPSx0
namespace Go.Proofs.Ytfbjeiloefocgaa.Pure
open Go.RowKit
open Go.Proofs.Ytfbjeiloefocgaa.PS Go.Proofs.Ytfbjeiloefocgaa.CC Go.Proofs.YtfbjeiloefocgaaW.PrintWords Go.Proofs.YtfbjeiloefocgaaW.PrintLast Go.Proofs.YtfbjeiloefocgaaW.PrintMore
/-- What is left of the law ArmForks: plain Lean. -/
def ArmForks_ : Prop := ∀ (a0 : Int) (l1 : List (S58)) (l2 : List (S58)), (Lit.int .u8 a0).wf = true → l1.length ≤ maxLen → (∀ y ∈ l1, ((Lit.int .i64 y.f0).wf = true ∧ (Lit.int .i64 y.f1).wf = true ∧ (Lit.int .u8 y.f2).wf = true)) → l2.length ≤ maxLen → (∀ y ∈ l2, ((Lit.int .i64 y.f0).wf = true ∧ (Lit.int .i64 y.f1).wf = true ∧ (Lit.int .u8 y.f2).wf = true)) → selvedgelaw21_ArmForks.f a0 l1 l2 = some true
end Go.Proofs.Ytfbjeiloefocgaa.Pure
