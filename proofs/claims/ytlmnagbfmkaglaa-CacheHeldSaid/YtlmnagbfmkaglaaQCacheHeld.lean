import Derived.Test.YtlmnagbfmkaglaaSCacheHeld
namespace Go.Proofs.Ytlmnagbfmkaglaa.Pure
open Go.RowKit
open Go.Proofs.Ytlmnagbfmkaglaa.PL Go.Proofs.Ytlmnagbfmkaglaa.PI Go.Proofs.Ytlmnagbfmkaglaa.CC Go.Proofs.YtlmnagbfmkaglaaW.PrintWords Go.Proofs.YtlmnagbfmkaglaaW.PrintLast Go.Proofs.YtlmnagbfmkaglaaW.PrintMore
theorem u8b {n : Int} (h : (Lit.int .u8 n).wf = true) : 0 ≤ n ∧ n < 256 := by
  have h' := (Bool.and_eq_true _ _).mp h
  have h1 : (0 : Int) ≤ n := of_decide_eq_true h'.1
  have h2 : n ≤ (255 : Int) := of_decide_eq_true h'.2
  omega
theorem CacheHeld : CacheHeld_ := by
  intro a0 l1 l2 h0 _ _ _ h2
  unfold selvedgelaw08_CacheHeld.f
  rw [if_pos ⟨u8b h0, fun y hy => u8b (h2 y hy)⟩]
end Go.Proofs.Ytlmnagbfmkaglaa.Pure
