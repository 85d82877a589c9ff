import Derived.Test.YteodjknknpdmeaaPGx9
namespace Go.Proofs.Yteodjknknpdmeaa.Pure
open Go.RowKit
open Go.Proofs.Yteodjknknpdmeaa.PG Go.Proofs.YteodjknknpdmeaaW.PrintWords Go.Proofs.YteodjknknpdmeaaW.PrintLast Go.Proofs.YteodjknknpdmeaaW.PrintMore
/-- What is left of the law BitsetMakes: plain Lean. -/
def BitsetMakes_ : Prop := ∀ (a0 : Int) (l1 : List Int) (x2 : S43), (Lit.int .i64 a0).wf = true → l1.length ≤ maxLen → (∀ y ∈ l1, (Lit.int .i64 y).wf = true) → ((x2.f0.length ≤ maxLen ∧ ∀ y5 ∈ x2.f0, (Lit.int .u8 y5).wf = true) ∧ (x2.f1.length ≤ maxLen ∧ ∀ y5 ∈ x2.f1, (Lit.int .u8 y5).wf = true)) → ∃ k, selvedgelaw02_BitsetMakes.f k a0 l1 x2.f0 x2.f1 = some true
end Go.Proofs.Yteodjknknpdmeaa.Pure
