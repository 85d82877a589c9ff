import Derived.Test.YtlmnagbfmkaglaaPOx0
namespace Go.Proofs.Ytlmnagbfmkaglaa.Pure
open Go.RowKit
open Go.Proofs.Ytlmnagbfmkaglaa.PO Go.Proofs.Ytlmnagbfmkaglaa.PI Go.Proofs.Ytlmnagbfmkaglaa.CC Go.Proofs.YtlmnagbfmkaglaaW.PrintWords Go.Proofs.YtlmnagbfmkaglaaW.PrintLast Go.Proofs.YtlmnagbfmkaglaaW.PrintMore
/-- What is left of the law CacheForks: plain Lean. -/
def CacheForks_ : Prop := ∀ (l0 : List (S50)) (l1 : List (S50)), l0.length ≤ maxLen → (∀ y ∈ l0, ((Lit.int .i64 y.f0).wf = true ∧ (Lit.int .i64 y.f1).wf = true ∧ True)) → l1.length ≤ maxLen → (∀ y ∈ l1, ((Lit.int .i64 y.f0).wf = true ∧ (Lit.int .i64 y.f1).wf = true ∧ True)) → selvedgelaw08_CacheForks.f l0 l1 = some true
end Go.Proofs.Ytlmnagbfmkaglaa.Pure
