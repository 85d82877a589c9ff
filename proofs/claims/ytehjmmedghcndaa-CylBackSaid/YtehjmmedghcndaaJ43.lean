import Derived.Test.YtehjmmedghcndaaPGx0
import Derived.Test.YtehjmmedghcndaaG3
import Derived.Test.YtehjmmedghcndaaJ42
import Derived.Test.YtehjmmedghcndaaJ32
import Derived.Test.YtehjmmedghcndaaJ31
section
namespace Go.Proofs.Ytehjmmedghcndaa.PG
open Go.RowKit Go.Proofs.YtehjmmedghcndaaW.PrintWords Go.Proofs.YtehjmmedghcndaaW.PrintLast Go.Proofs.YtehjmmedghcndaaW.PrintMore
attribute [local go_sem] max2_int min2_int max_two min_two max_three min_three max_four min_four run_store_one   -- for this text's walks alone
set_option linter.unusedVariables false
set_option linter.unusedSimpArgs false
/-! ### selvedgeref18_File: function 41 -/
mutual
def selvedgeref18_File.l0 : Nat → List (S42) → Int → List Int → Int → Option ((List (S42)) × Int × Int × Int)
 | 0, _, _, _, _ => none
 | k + 1, x0, x1, x7, x8 => if x8 < (x0.length : Int) then (if x7.length < 17592186044416 then (selvedgeref18_File.l0 k x0 x1 (x7 ++ [x8]) (wrap64 (x8 + 1))) else (none)) else (selvedgeref18_File.l1 k x0 x1 x7 0)
def selvedgeref18_File.l1 : Nat → List (S42) → Int → List Int → Int → Option ((List (S42)) × Int × Int × Int)
 | 0, _, _, _, _ => none
 | k + 1, x0, x1, x7, x9 => if x9 < (x7.length : Int) then (if 0 ≤ x9 then (if (x0.length : Int) = 0 then (none) else (if (rd x7 x9) ≤ (x0.length : Int) then (if 0 ≤ (Int.tmod (wrap64 (x1 + (rd x7 x9))) (x0.length : Int)) then (if (Int.tmod (wrap64 (x1 + (rd x7 x9))) (x0.length : Int)) < (x0.length : Int) then (if ((rd_T42 x0 (Int.tmod (wrap64 (x1 + (rd x7 x9))) (x0.length : Int))).f3) > 0 then ((selvedgeref18_first.f x0 (Int.tmod (wrap64 (x1 + (rd x7 x9))) (x0.length : Int))).bind fun bt817 => (some (bt817.1, bt817.2.1, bt817.2.2.1, bt817.2.2.2))) else (selvedgeref18_File.l1 k x0 x1 x7 (wrap64 (x9 + 1)))) else (none)) else (none)) else (selvedgeref18_File.l1 k x0 x1 x7 (wrap64 (x9 + 1))))) else (none)) else (some (([] : List (S42)), 0, 0, 4))
end
/-! ### selvedgeref18_Dir: function 42 -/
end Go.Proofs.Ytehjmmedghcndaa.PG
end
section
/-! cyl, plain: the reference's Free, Dir, File are the program's -/
namespace Go.Proofs.Ytehjmmedghcndaa.PG
open Go.RowKit Go.Proofs.YtehjmmedghcndaaW.PrintWords Go.Proofs.YtehjmmedghcndaaW.PrintLast Go.Proofs.YtehjmmedghcndaaW.PrintMore
/-! ### File -/
end Go.Proofs.Ytehjmmedghcndaa.PG
end
section
namespace Go.Proofs.Ytehjmmedghcndaa.PG
open Go.RowKit Go.Proofs.YtehjmmedghcndaaW.PrintWords Go.Proofs.YtehjmmedghcndaaW.PrintLast Go.Proofs.YtehjmmedghcndaaW.PrintMore
attribute [local go_sem] max2_int min2_int max_two min_two max_three min_three max_four min_four run_store_one   -- for this text's walks alone
set_option linter.unusedVariables false
set_option linter.unusedSimpArgs false

set_option maxHeartbeats 4000000 in
set_option maxRecDepth 100000 in
theorem eqA81 (d : Nat) (w : World) (x0 y0 : Int) (x1 y1 : Int) (x2 y2 : Int) (x3 y3 : Int) (x4 y4 : Int) :
  (Op.equalIn (d + 2) 81 (.agg #[.int .i64 x0, .int .i64 x1, .int .i64 x2, .int .i64 x3, .int .i64 x4]) (.agg #[.int .i64 y0, .int .i64 y1, .int .i64 y2, .int .i64 y3, .int .i64 y4])).run Try.prog w = .ok (x0 == y0 && (x1 == y1 && (x2 == y2 && (x3 == y3 && (x4 == y4))))) w := by
 have hs : ∀ W : World, (sizeOf 3).run Try.prog W = .ok 1 W := fun _ => rfl
 simp only [Op.equalIn, run_underlying Try.underlying81, Sem.run_bind, Result.andThen_ok, hs]
 simp [List.range', part, go_sem, Op.equalIn, run_underlying Try.underlying3, hs]
 by_cases h0 : x0 = y0 <;> by_cases h1 : x1 = y1 <;> by_cases h2 : x2 = y2 <;> by_cases h3 : x3 = y3 <;> by_cases h4 : x4 = y4 <;> simp [h0, h1, h2, h3, h4]
end Go.Proofs.Ytehjmmedghcndaa.PG
end
