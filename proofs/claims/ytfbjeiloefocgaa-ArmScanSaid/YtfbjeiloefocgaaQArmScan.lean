import Derived.Test.YtfbjeiloefocgaaSArmScan
namespace Go.Proofs.Ytfbjeiloefocgaa.Pure
open Go.RowKit
open Go.Proofs.Ytfbjeiloefocgaa.PW Go.Proofs.Ytfbjeiloefocgaa.CC Go.Proofs.YtfbjeiloefocgaaW.PrintWords Go.Proofs.YtfbjeiloefocgaaW.PrintLast Go.Proofs.YtfbjeiloefocgaaW.PrintMore
theorem u8b {n : Int} (h : (Lit.int .u8 n).wf = true) : 0 ≤ n ∧ n < 256 := by
  have h' := (Bool.and_eq_true _ _).mp h
  have h1 : (0 : Int) ≤ n := of_decide_eq_true h'.1
  have h2 : n ≤ (255 : Int) := of_decide_eq_true h'.2
  omega
theorem u16b {n : Int} (h : (Lit.int .u16 n).wf = true) : 0 ≤ n ∧ n < 65536 := by
  have h' := (Bool.and_eq_true _ _).mp h
  have h1 : (0 : Int) ≤ n := of_decide_eq_true h'.1
  have h2 : n ≤ (65535 : Int) := of_decide_eq_true h'.2
  omega
theorem ArmScan : ArmScan_ := by
  intro a0 a1 l2 h0 h1 _ h2
  unfold selvedgelaw21_ArmScan.f
  rw [if_pos ⟨(u8b h0).1, (u8b h0).2, (u8b h1).1, (u8b h1).2, List.all_eq_true.2 (fun y hy => decide_eq_true (u16b (h2 y hy)))⟩]
end Go.Proofs.Ytfbjeiloefocgaa.Pure
