import Derived.Test.YtfbjeiloefocgaaPRx0
namespace Go.Proofs.Ytfbjeiloefocgaa.Pure
open Go.RowKit
open Go.Proofs.Ytfbjeiloefocgaa.PR Go.Proofs.Ytfbjeiloefocgaa.CC Go.Proofs.YtfbjeiloefocgaaW.PrintWords Go.Proofs.YtfbjeiloefocgaaW.PrintLast Go.Proofs.YtfbjeiloefocgaaW.PrintMore
/-- What is left of the law ArmNone: plain Lean. -/
def ArmNone_ : Prop := ∀ (x0 : S58) (a1 : Int), ((Lit.int .i64 x0.f0).wf = true ∧ (Lit.int .i64 x0.f1).wf = true ∧ (Lit.int .u8 x0.f2).wf = true) → (Lit.int .i64 a1).wf = true → selvedgelaw21_ArmNone.f x0.f0 x0.f1 x0.f2 a1 = some true
end Go.Proofs.Ytfbjeiloefocgaa.Pure
