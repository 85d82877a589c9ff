-- PRINTED by print.py (a twelfth state) out of the translation. Not trusted: Lean checks it.
import Derived.Test.YteodjknknpdmeaaPGx0
import Derived.Test.YteodjknknpdmeaaExt5
import Derived.Test.YteodjknknpdmeaaExt6
namespace Go.Proofs.Yteodjknknpdmeaa.PG
open Go.RowKit Go.Proofs.YteodjknknpdmeaaW.PrintWords Go.Proofs.YteodjknknpdmeaaW.PrintLast Go.Proofs.YteodjknknpdmeaaW.PrintMore
attribute [local go_sem] max2_int min2_int max_two min_two max_three min_three max_four min_four   -- for this text's walks alone
set_option linter.unusedVariables false
set_option linter.unusedSimpArgs false

theorem eqA30 (d : Nat) (w : World) (x0 y0 : Int) (x1 y1 : Int) :
    (Op.equalIn (d + 2) 30 (.agg #[.int .i64 x0, .int .i64 x1]) (.agg #[.int .i64 y0, .int .i64 y1])).run Try.prog w = .ok (x0 == y0 && (x1 == y1)) w := by
  have hs : ∀ W : World, (sizeOf 3).run Try.prog W = .ok 1 W := fun _ => rfl
  simp only [Op.equalIn, run_underlying Try.underlying30, Sem.run_bind, Result.andThen_ok, hs]
  simp [List.range', part, go_sem, Op.equalIn, run_underlying Try.underlying3, hs]
  by_cases h0 : x0 = y0 <;> by_cases h1 : x1 = y1 <;> simp [h0, h1]
end Go.Proofs.Yteodjknknpdmeaa.PG
