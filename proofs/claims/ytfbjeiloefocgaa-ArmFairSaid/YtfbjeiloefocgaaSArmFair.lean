import Derived.Test.YtfbjeiloefocgaaPUx0
namespace Go.Proofs.Ytfbjeiloefocgaa.Pure
open Go.RowKit
open Go.Proofs.Ytfbjeiloefocgaa.PU Go.Proofs.Ytfbjeiloefocgaa.CC Go.Proofs.YtfbjeiloefocgaaW.PrintWords Go.Proofs.YtfbjeiloefocgaaW.PrintLast Go.Proofs.YtfbjeiloefocgaaW.PrintMore
/-- What is left of the law ArmFair: plain Lean. -/
def ArmFair_ : Prop := ∀ (l0 : List (S58)) (a1 : Int) (l2 : List Int), l0.length ≤ maxLen → (∀ y ∈ l0, ((Lit.int .i64 y.f0).wf = true ∧ (Lit.int .i64 y.f1).wf = true ∧ (Lit.int .u8 y.f2).wf = true)) → (Lit.int .u16 a1).wf = true → l2.length ≤ maxLen → (∀ y ∈ l2, (Lit.int .u16 y).wf = true) → selvedgelaw21_ArmFair.f l0 a1 l2 = some true
end Go.Proofs.Ytfbjeiloefocgaa.Pure
