import Derived.Test.YtlmnagbfmkaglaaSCachePins
namespace Go.Proofs.Ytlmnagbfmkaglaa.Pure
open Go.RowKit
open Go.Proofs.Ytlmnagbfmkaglaa.PN Go.Proofs.Ytlmnagbfmkaglaa.PI Go.Proofs.Ytlmnagbfmkaglaa.CC Go.Proofs.YtlmnagbfmkaglaaW.PrintWords Go.Proofs.YtlmnagbfmkaglaaW.PrintLast Go.Proofs.YtlmnagbfmkaglaaW.PrintMore
theorem u8b {n : Int} (h : (Lit.int .u8 n).wf = true) : 0 ≤ n ∧ n < 256 := by
  have h' := (Bool.and_eq_true _ _).mp h
  have h1 : (0 : Int) ≤ n := of_decide_eq_true h'.1
  have h2 : n ≤ (255 : Int) := of_decide_eq_true h'.2
  omega
theorem CachePins : CachePins_ := by
  intro l0 a1 a2 _ _ _ h2
  unfold selvedgelaw08_CachePins.f
  rw [if_pos (u8b h2)]
end Go.Proofs.Ytlmnagbfmkaglaa.Pure
