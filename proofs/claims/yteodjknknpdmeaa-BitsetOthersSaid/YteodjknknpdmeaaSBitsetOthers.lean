import Derived.Test.YteodjknknpdmeaaPGx4
namespace Go.Proofs.Yteodjknknpdmeaa.Pure
open Go.RowKit
open Go.Proofs.Yteodjknknpdmeaa.PG Go.Proofs.YteodjknknpdmeaaW.PrintWords Go.Proofs.YteodjknknpdmeaaW.PrintLast Go.Proofs.YteodjknknpdmeaaW.PrintMore
/-- What is left of the law BitsetOthers: plain Lean. -/
def BitsetOthers_ : Prop := ∀ (l0 : List Int) (x1 : S30) (a2 : Bool), l0.length ≤ maxLen → (∀ y ∈ l0, (Lit.int .u8 y).wf = true) → ((Lit.int .i64 x1.f0).wf = true ∧ (Lit.int .i64 x1.f1).wf = true) → ∃ k, selvedgelaw02_BitsetOthers.f k l0 x1.f0 x1.f1 a2 = some true
end Go.Proofs.Yteodjknknpdmeaa.Pure
