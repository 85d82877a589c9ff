import Derived.Test.YtlmnagbfmkaglaaPJx0
namespace Go.Proofs.Ytlmnagbfmkaglaa.Pure
open Go.RowKit
open Go.Proofs.Ytlmnagbfmkaglaa.PJ Go.Proofs.YtlmnagbfmkaglaaW.PrintWords Go.Proofs.YtlmnagbfmkaglaaW.PrintLast Go.Proofs.YtlmnagbfmkaglaaW.PrintMore
/-- What is left of the law CacheOrder: plain Lean. -/
def CacheOrder_ : Prop := ∀ (a0 : Int) (a1 : Int) (a2 : Int), (Lit.int .u8 a0).wf = true → (Lit.int .u8 a1).wf = true → (Lit.int .u8 a2).wf = true → selvedgelaw08_CacheOrder.f a0 a1 a2 = some true
end Go.Proofs.Ytlmnagbfmkaglaa.Pure
