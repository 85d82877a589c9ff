import Derived.Test.YtlmnagbfmkaglaaPNx0
namespace Go.Proofs.Ytlmnagbfmkaglaa.Pure
open Go.RowKit
open Go.Proofs.Ytlmnagbfmkaglaa.PN Go.Proofs.Ytlmnagbfmkaglaa.PI Go.Proofs.Ytlmnagbfmkaglaa.CC Go.Proofs.YtlmnagbfmkaglaaW.PrintWords Go.Proofs.YtlmnagbfmkaglaaW.PrintLast Go.Proofs.YtlmnagbfmkaglaaW.PrintMore
/-- What is left of the law CachePins: plain Lean. -/
def CachePins_ : Prop := ∀ (l0 : List (S50)) (a1 : Int) (a2 : Int), l0.length ≤ maxLen → (∀ y ∈ l0, ((Lit.int .i64 y.f0).wf = true ∧ (Lit.int .i64 y.f1).wf = true ∧ True)) → (Lit.int .i64 a1).wf = true → (Lit.int .u8 a2).wf = true → selvedgelaw08_CachePins.f l0 a1 a2 = some true
end Go.Proofs.Ytlmnagbfmkaglaa.Pure
