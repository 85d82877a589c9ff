import Derived.Test.YthembklejaabiaaPIx0
namespace Go.Proofs.Ythembklejaabiaa.Pure
open Go.RowKit
open Go.Proofs.Ythembklejaabiaa.PI Go.Proofs.YthembklejaabiaaW.PrintWords Go.Proofs.YthembklejaabiaaW.PrintLast Go.Proofs.YthembklejaabiaaW.PrintMore
/-- What is left of the law PlaceShort: plain Lean. -/
def PlaceShort_ : Prop := ∀ (x0 : S23) (a1 : Int), ((Lit.int .u16 x0.f0).wf = true ∧ (Lit.int .u16 x0.f1).wf = true ∧ (Lit.int .u16 x0.f2).wf = true) → (Lit.int .u16 a1).wf = true → selvedgelaw01_PlaceShort.f x0.f0 x0.f1 x0.f2 a1 = some true
end Go.Proofs.Ythembklejaabiaa.Pure
