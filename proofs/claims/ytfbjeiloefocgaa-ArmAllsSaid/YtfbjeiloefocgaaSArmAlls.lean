import Derived.Test.YtfbjeiloefocgaaPQx0
namespace Go.Proofs.Ytfbjeiloefocgaa.Pure
open Go.RowKit
open Go.Proofs.Ytfbjeiloefocgaa.PQ Go.Proofs.Ytfbjeiloefocgaa.CC Go.Proofs.YtfbjeiloefocgaaW.PrintWords Go.Proofs.YtfbjeiloefocgaaW.PrintLast Go.Proofs.YtfbjeiloefocgaaW.PrintMore
/-- What is left of the law ArmAlls: plain Lean. -/
def ArmAlls_ : Prop := ∀ (x0 : S25), ((Lit.int .u8 x0.f0).wf = true ∧ (Lit.int .i64 x0.f1).wf = true ∧ (Lit.int .i64 x0.f2).wf = true ∧ (x0.f3.length ≤ maxLen ∧ ∀ y5 ∈ x0.f3, (Lit.int .i64 y5).wf = true)) → selvedgelaw21_ArmAlls.f x0.f0 x0.f1 x0.f2 x0.f3 = some true
end Go.Proofs.Ytfbjeiloefocgaa.Pure
