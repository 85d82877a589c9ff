import Derived.Test.YtfbjeiloefocgaaPTx0
namespace Go.Proofs.Ytfbjeiloefocgaa.Pure
open Go.RowKit
open Go.Proofs.Ytfbjeiloefocgaa.PT Go.Proofs.Ytfbjeiloefocgaa.CC Go.Proofs.YtfbjeiloefocgaaW.PrintWords Go.Proofs.YtfbjeiloefocgaaW.PrintLast Go.Proofs.YtfbjeiloefocgaaW.PrintMore
/-- What is left of the law ArmOnce: plain Lean. -/
def ArmOnce_ : Prop := ∀ (a0 : Int) (a1 : Int) (l2 : List (S58)), (Lit.int .u8 a0).wf = true → (Lit.int .u8 a1).wf = true → l2.length ≤ maxLen → (∀ y ∈ l2, ((Lit.int .i64 y.f0).wf = true ∧ (Lit.int .i64 y.f1).wf = true ∧ (Lit.int .u8 y.f2).wf = true)) → selvedgelaw21_ArmOnce.f a0 a1 l2 = some true
end Go.Proofs.Ytfbjeiloefocgaa.Pure
