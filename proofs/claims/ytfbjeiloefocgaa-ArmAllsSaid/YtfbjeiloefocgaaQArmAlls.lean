import Derived.Test.YtfbjeiloefocgaaSArmAlls
namespace Go.Proofs.Ytfbjeiloefocgaa.Pure
open Go.RowKit
open Go.Proofs.Ytfbjeiloefocgaa.PQ Go.Proofs.Ytfbjeiloefocgaa.CC Go.Proofs.YtfbjeiloefocgaaW.PrintWords Go.Proofs.YtfbjeiloefocgaaW.PrintLast Go.Proofs.YtfbjeiloefocgaaW.PrintMore
theorem ArmAlls : ArmAlls_ := by
  rintro x0 ⟨_, _, _, hl, _⟩
  unfold selvedgelaw21_ArmAlls.f
  rw [if_pos (by unfold maxLen at hl; omega)]
end Go.Proofs.Ytfbjeiloefocgaa.Pure
