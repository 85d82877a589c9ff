import Derived.Test.YtlmnagbfmkaglaaPLx0
namespace Go.Proofs.Ytlmnagbfmkaglaa.Pure
open Go.RowKit
open Go.Proofs.Ytlmnagbfmkaglaa.PL Go.Proofs.Ytlmnagbfmkaglaa.PI Go.Proofs.Ytlmnagbfmkaglaa.CC Go.Proofs.YtlmnagbfmkaglaaW.PrintWords Go.Proofs.YtlmnagbfmkaglaaW.PrintLast Go.Proofs.YtlmnagbfmkaglaaW.PrintMore
/-- What is left of the law CacheHeld: plain Lean. -/
def CacheHeld_ : Prop := ∀ (a0 : Int) (l1 : List (S50)) (l2 : List Int), (Lit.int .u8 a0).wf = true → l1.length ≤ maxLen → (∀ y ∈ l1, ((Lit.int .i64 y.f0).wf = true ∧ (Lit.int .i64 y.f1).wf = true ∧ True)) → l2.length ≤ maxLen → (∀ y ∈ l2, (Lit.int .u8 y).wf = true) → selvedgelaw08_CacheHeld.f a0 l1 l2 = some true
end Go.Proofs.Ytlmnagbfmkaglaa.Pure
