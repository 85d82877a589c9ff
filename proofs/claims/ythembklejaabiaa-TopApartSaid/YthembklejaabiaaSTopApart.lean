import Derived.Test.YthembklejaabiaaPGx1
namespace Go.Proofs.Ythembklejaabiaa.Pure
open Go.RowKit
open Go.Proofs.Ythembklejaabiaa.PG Go.Proofs.YthembklejaabiaaW.PrintWords Go.Proofs.YthembklejaabiaaW.PrintLast Go.Proofs.YthembklejaabiaaW.PrintMore
/-- What is left of the law TopApart: plain Lean. -/
def TopApart_ : Prop := ∀ (l0 : List Int), l0.length ≤ maxLen → (∀ y ∈ l0, (Lit.int .u8 y).wf = true) → ∃ k, selvedgetop_TopApart.f k l0 = some true
end Go.Proofs.Ythembklejaabiaa.Pure
