import Derived.Test.YtfbjeiloefocgaaPWx0
namespace Go.Proofs.Ytfbjeiloefocgaa.Pure
open Go.RowKit
open Go.Proofs.Ytfbjeiloefocgaa.PW Go.Proofs.Ytfbjeiloefocgaa.CC Go.Proofs.YtfbjeiloefocgaaW.PrintWords Go.Proofs.YtfbjeiloefocgaaW.PrintLast Go.Proofs.YtfbjeiloefocgaaW.PrintMore
/-- What is left of the law ArmScan: plain Lean. -/
def ArmScan_ : Prop := ∀ (a0 : Int) (a1 : Int) (l2 : List Int), (Lit.int .u8 a0).wf = true → (Lit.int .u8 a1).wf = true → l2.length ≤ maxLen → (∀ y ∈ l2, (Lit.int .u16 y).wf = true) → selvedgelaw21_ArmScan.f a0 a1 l2 = some true
end Go.Proofs.Ytfbjeiloefocgaa.Pure
