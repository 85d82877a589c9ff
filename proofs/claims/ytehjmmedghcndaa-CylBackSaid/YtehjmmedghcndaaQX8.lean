import Derived.Test.YtehjmmedghcndaaPGx0
/-! Two bytes, each bit of which is unlike: the numbers. -/
namespace Go.Proofs.Ytehjmmedghcndaa.PG
open Go.RowKit Go.Proofs.YtehjmmedghcndaaW.PrintWords Go.Proofs.YtehjmmedghcndaaW.PrintLast Go.Proofs.YtehjmmedghcndaaW.PrintMore
theorem xor8 : ∀ a : Nat, a < 256 → ∀ t : Nat, t < 256 → 0 ≤ Go.bits .xor .u8 (a : Int) (t : Int) ∧ Go.bits .xor .u8 (a : Int) (t : Int) < 256 ∧ (Go.bits .xor .u8 (a : Int) (t : Int) = (a : Int) → t = 0) := by decide +kernel
end Go.Proofs.Ytehjmmedghcndaa.PG
