import Derived.Test.YthembklejaabiaaPGx5
namespace Go.Proofs.Ythembklejaabiaa.Pure
open Go.RowKit
open Go.Proofs.Ythembklejaabiaa.PG Go.Proofs.YthembklejaabiaaW.PrintWords Go.Proofs.YthembklejaabiaaW.PrintLast Go.Proofs.YthembklejaabiaaW.PrintMore
/-- What is left of the law PlaceSame: plain Lean. -/
def PlaceSame_ : Prop := ∀ (a0 : Int) (l1 : List Int) (a2 : Int), (Lit.int .i64 a0).wf = true → l1.length ≤ maxLen → (∀ y ∈ l1, (Lit.int .i64 y).wf = true) → (Lit.int .i64 a2).wf = true → ∃ k, selvedgelaw01_PlaceSame.f k a0 l1 a2 = some true
end Go.Proofs.Ythembklejaabiaa.Pure
