import Derived.Test.YtfbjeiloefocgaaSArmNone
namespace Go.Proofs.Ytfbjeiloefocgaa.Pure
open Go.RowKit
open Go.Proofs.Ytfbjeiloefocgaa.PR Go.Proofs.Ytfbjeiloefocgaa.CC Go.Proofs.YtfbjeiloefocgaaW.PrintWords Go.Proofs.YtfbjeiloefocgaaW.PrintLast Go.Proofs.YtfbjeiloefocgaaW.PrintMore
theorem ArmNone : ArmNone_ := by
  intro x0 a1 _ _
  unfold selvedgelaw21_ArmNone.f
  simp
end Go.Proofs.Ytfbjeiloefocgaa.Pure
