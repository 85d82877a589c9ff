import Derived.Test.YteodjknknpdmeaaPGx10
namespace Go.Proofs.Yteodjknknpdmeaa.Pure
open Go.RowKit
open Go.Proofs.Yteodjknknpdmeaa.PG Go.Proofs.YteodjknknpdmeaaW.PrintWords Go.Proofs.YteodjknknpdmeaaW.PrintLast Go.Proofs.YteodjknknpdmeaaW.PrintMore
/-- What is left of the law BitsetBack: plain Lean. -/
def BitsetBack_ : Prop := ∀ (l0 : List Int), l0.length ≤ maxLen → (∀ y ∈ l0, (Lit.int .u8 y).wf = true) → ∃ k, selvedgelaw02_BitsetBack.f k l0 = some true
end Go.Proofs.Yteodjknknpdmeaa.Pure
