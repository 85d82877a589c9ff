import Derived.Test.YthembklejaabiaaPHx0
namespace Go.Proofs.Ythembklejaabiaa.Pure
open Go.RowKit
open Go.Proofs.Ythembklejaabiaa.PH Go.Proofs.YthembklejaabiaaW.PrintWords Go.Proofs.YthembklejaabiaaW.PrintLast Go.Proofs.YthembklejaabiaaW.PrintMore
/-- What is left of the law PlaceBack: plain Lean. -/
def PlaceBack_ : Prop := ∀ (a0 : Int) (a1 : Int), (Lit.int .i64 a0).wf = true → (Lit.int .i64 a1).wf = true → selvedgelaw01_PlaceBack.f a0 a1 = some true
end Go.Proofs.Ythembklejaabiaa.Pure
