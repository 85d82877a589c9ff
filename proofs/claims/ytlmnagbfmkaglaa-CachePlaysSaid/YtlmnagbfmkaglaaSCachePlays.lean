import Derived.Test.YtlmnagbfmkaglaaPKx0
namespace Go.Proofs.Ytlmnagbfmkaglaa.Pure
open Go.RowKit
open Go.Proofs.Ytlmnagbfmkaglaa.PK Go.Proofs.Ytlmnagbfmkaglaa.PI Go.Proofs.Ytlmnagbfmkaglaa.CC Go.Proofs.YtlmnagbfmkaglaaW.PrintWords Go.Proofs.YtlmnagbfmkaglaaW.PrintLast Go.Proofs.YtlmnagbfmkaglaaW.PrintMore
/-- What is left of the law CachePlays: plain Lean. -/
def CachePlays_ : Prop := ∀ (a0 : Int) (l1 : List (S50)), (Lit.int .u8 a0).wf = true → l1.length ≤ maxLen → (∀ y ∈ l1, ((Lit.int .i64 y.f0).wf = true ∧ (Lit.int .i64 y.f1).wf = true ∧ True)) → selvedgelaw08_CachePlays.f a0 l1 = some true
end Go.Proofs.Ytlmnagbfmkaglaa.Pure
