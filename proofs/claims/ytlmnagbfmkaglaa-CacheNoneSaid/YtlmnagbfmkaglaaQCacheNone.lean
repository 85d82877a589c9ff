import Derived.Test.YtlmnagbfmkaglaaSCacheNone
namespace Go.Proofs.Ytlmnagbfmkaglaa.Pure
open Go.RowKit
open Go.Proofs.Ytlmnagbfmkaglaa.PI Go.Proofs.YtlmnagbfmkaglaaW.PrintWords Go.Proofs.YtlmnagbfmkaglaaW.PrintLast Go.Proofs.YtlmnagbfmkaglaaW.PrintMore
theorem CacheNone : CacheNone_ := by
  intro x0 a1 _ _
  unfold selvedgelaw08_CacheNone.f
  simp
end Go.Proofs.Ytlmnagbfmkaglaa.Pure
