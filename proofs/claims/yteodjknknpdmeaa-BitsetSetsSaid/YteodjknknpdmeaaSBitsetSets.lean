import Derived.Test.YteodjknknpdmeaaPGx3
namespace Go.Proofs.Yteodjknknpdmeaa.Pure
open Go.RowKit
open Go.Proofs.Yteodjknknpdmeaa.PG Go.Proofs.YteodjknknpdmeaaW.PrintWords Go.Proofs.YteodjknknpdmeaaW.PrintLast Go.Proofs.YteodjknknpdmeaaW.PrintMore
/-- What is left of the law BitsetSets: plain Lean. -/
def BitsetSets_ : Prop := ∀ (l0 : List Int) (a1 : Int) (a2 : Bool), l0.length ≤ maxLen → (∀ y ∈ l0, (Lit.int .u8 y).wf = true) → (Lit.int .i64 a1).wf = true → ∃ k, selvedgelaw02_BitsetSets.f k l0 a1 a2 = some true
end Go.Proofs.Yteodjknknpdmeaa.Pure
