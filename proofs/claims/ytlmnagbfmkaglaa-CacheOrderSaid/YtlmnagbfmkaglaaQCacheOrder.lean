import Derived.Test.YtlmnagbfmkaglaaSCacheOrder
namespace Go.Proofs.Ytlmnagbfmkaglaa.Pure
open Go.RowKit
open Go.Proofs.Ytlmnagbfmkaglaa.PJ Go.Proofs.YtlmnagbfmkaglaaW.PrintWords Go.Proofs.YtlmnagbfmkaglaaW.PrintLast Go.Proofs.YtlmnagbfmkaglaaW.PrintMore
theorem u8b {n : Int} (h : (Lit.int .u8 n).wf = true) : 0 ≤ n ∧ n < 256 := by
  have h' := (Bool.and_eq_true _ _).mp h
  have h1 : (0 : Int) ≤ n := of_decide_eq_true h'.1
  have h2 : n ≤ (255 : Int) := of_decide_eq_true h'.2
  omega
theorem CacheOrder : CacheOrder_ := by
  intro a0 a1 a2 h0 h1 h2
  have b0 := u8b h0
  have b1 := u8b h1
  have b2 := u8b h2
  unfold selvedgelaw08_CacheOrder.f
  rw [if_pos (by omega)]
end Go.Proofs.Ytlmnagbfmkaglaa.Pure
