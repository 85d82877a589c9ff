import Derived.Test.YtlmnagbfmkaglaaPMx0
namespace Go.Proofs.Ytlmnagbfmkaglaa.Pure
open Go.RowKit
open Go.Proofs.Ytlmnagbfmkaglaa.PM Go.Proofs.Ytlmnagbfmkaglaa.PI Go.Proofs.Ytlmnagbfmkaglaa.CC Go.Proofs.YtlmnagbfmkaglaaW.PrintWords Go.Proofs.YtlmnagbfmkaglaaW.PrintLast Go.Proofs.YtlmnagbfmkaglaaW.PrintMore
/-- What is left of the law CacheFew: plain Lean. -/
def CacheFew_ : Prop := ∀ (a0 : Int) (l1 : List (S50)) (a2 : Int), (Lit.int .u8 a0).wf = true → l1.length ≤ maxLen → (∀ y ∈ l1, ((Lit.int .i64 y.f0).wf = true ∧ (Lit.int .i64 y.f1).wf = true ∧ True)) → (Lit.int .i64 a2).wf = true → selvedgelaw08_CacheFew.f a0 l1 a2 = some true
end Go.Proofs.Ytlmnagbfmkaglaa.Pure
