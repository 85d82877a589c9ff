import Derived.Test.YtfbjeiloefocgaaSArmForks
namespace Go.Proofs.Ytfbjeiloefocgaa.Pure
open Go.RowKit
open Go.Proofs.Ytfbjeiloefocgaa.PS Go.Proofs.Ytfbjeiloefocgaa.CC Go.Proofs.YtfbjeiloefocgaaW.PrintWords Go.Proofs.YtfbjeiloefocgaaW.PrintLast Go.Proofs.YtfbjeiloefocgaaW.PrintMore
theorem u8b {n : Int} (h : (Lit.int .u8 n).wf = true) : 0 ≤ n ∧ n < 256 := by
  have h' := (Bool.and_eq_true _ _).mp h
  have h1 : (0 : Int) ≤ n := of_decide_eq_true h'.1
  have h2 : n ≤ (255 : Int) := of_decide_eq_true h'.2
  omega
theorem ArmForks : ArmForks_ := by
  intro a0 l1 l2 h0 _ _ _ _
  unfold selvedgelaw21_ArmForks.f
  rw [if_pos ⟨(u8b h0).1, (u8b h0).2⟩]
end Go.Proofs.Ytfbjeiloefocgaa.Pure
