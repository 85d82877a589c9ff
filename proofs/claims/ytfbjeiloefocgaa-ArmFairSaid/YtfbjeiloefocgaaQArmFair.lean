import Derived.Test.YtfbjeiloefocgaaSArmFair
namespace Go.Proofs.Ytfbjeiloefocgaa.Pure
open Go.RowKit
open Go.Proofs.Ytfbjeiloefocgaa.PU Go.Proofs.Ytfbjeiloefocgaa.CC Go.Proofs.YtfbjeiloefocgaaW.PrintWords Go.Proofs.YtfbjeiloefocgaaW.PrintLast Go.Proofs.YtfbjeiloefocgaaW.PrintMore
theorem u16b {n : Int} (h : (Lit.int .u16 n).wf = true) : 0 ≤ n ∧ n < 65536 := by
  have h' := (Bool.and_eq_true _ _).mp h
  have h1 : (0 : Int) ≤ n := of_decide_eq_true h'.1
  have h2 : n ≤ (65535 : Int) := of_decide_eq_true h'.2
  omega
theorem ArmFair : ArmFair_ := by
  intro l0 a1 l2 _ _ h1 _ _
  unfold selvedgelaw21_ArmFair.f
  rw [if_pos (u16b h1)]
end Go.Proofs.Ytfbjeiloefocgaa.Pure
