import Derived.Test.YtlmnagbfmkaglaaPIx0
namespace Go.Proofs.Ytlmnagbfmkaglaa.Pure
open Go.RowKit
open Go.Proofs.Ytlmnagbfmkaglaa.PI Go.Proofs.YtlmnagbfmkaglaaW.PrintWords Go.Proofs.YtlmnagbfmkaglaaW.PrintLast Go.Proofs.YtlmnagbfmkaglaaW.PrintMore
/-- What is left of the law CacheNone: plain Lean. -/
def CacheNone_ : Prop := ∀ (x0 : S50) (a1 : Int), ((Lit.int .i64 x0.f0).wf = true ∧ (Lit.int .i64 x0.f1).wf = true ∧ True) → (Lit.int .i64 a1).wf = true → selvedgelaw08_CacheNone.f x0.f0 x0.f1 x0.f2 a1 = some true
end Go.Proofs.Ytlmnagbfmkaglaa.Pure
