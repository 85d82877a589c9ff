import Derived.Test.YtokocakdcdcdgaaPGx4
namespace Go.Proofs.Ytokocakdcdcdgaa.Pure
open Go.RowKit
open Go.Proofs.Ytokocakdcdcdgaa.PG Go.Proofs.YtokocakdcdcdgaaW.PrintWords Go.Proofs.YtokocakdcdcdgaaW.PrintLast Go.Proofs.YtokocakdcdcdgaaW.PrintMore
/-- What is left of the law TopTurns: plain Lean. -/
def TopTurns_ : Prop := ∀ (l0 : List (S41)) (l1 : List Int), l0.length ≤ maxLen → (∀ y ∈ l0, ((Lit.int .i64 y.f0).wf = true ∧ (Lit.int .i64 y.f1).wf = true ∧ y.f2.size ≤ maxLen)) → l1.length ≤ maxLen → (∀ y ∈ l1, (Lit.int .u8 y).wf = true) → ∃ k, selvedgetop_TopTurns.f k l0 l1 = some true
end Go.Proofs.Ytokocakdcdcdgaa.Pure
