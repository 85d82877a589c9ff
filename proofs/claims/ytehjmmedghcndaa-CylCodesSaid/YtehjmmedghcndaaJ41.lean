import Derived.Test.YtehjmmedghcndaaJ28
import Derived.Test.YtehjmmedghcndaaCB
import Derived.Test.YtehjmmedghcndaaG4
import Derived.Test.YtehjmmedghcndaaPGx0
import Derived.Test.YtehjmmedghcndaaG3
import Derived.Test.YtehjmmedghcndaaCN
section
/-! cyl, plain: few, and what is the same -/
namespace Go.Proofs.Ytehjmmedghcndaa.PG
open Go.RowKit Go.Proofs.YtehjmmedghcndaaW.PrintWords Go.Proofs.YtehjmmedghcndaaW.PrintLast Go.Proofs.YtehjmmedghcndaaW.PrintMore
/-- A group with at most so many numbers. -/
def oneS (c : S42) : S42 := ⟨c.f0, c.f1, c.f2, c.f3, c.f4, c.f5.take 70, c.f6.take 20⟩
theorem one_is (c : S42) : selvedgelaw18_one.f c.f0 c.f1 c.f2 c.f3 c.f4 c.f5 c.f6 = some (c.f0, c.f1, c.f2, c.f3, c.f4, c.f5.take 70, c.f6.take 20) := by
 have h5 : (c.f5.take 70).length ≤ 70 := List.length_take_le _ _
 have h6 : (c.f6.take 20).length ≤ 20 := List.length_take_le _ _
 have e5 : ¬ (c.f5.length : Int) > 70 → c.f5.take 70 = c.f5 := fun h => List.take_of_length_le (by omega)
 have e6 : ¬ (c.f6.length : Int) > 20 → c.f6.take 20 = c.f6 := fun h => List.take_of_length_le (by omega)
 unfold selvedgelaw18_one.f
 by_cases a5 : (c.f5.length : Int) > 70 <;> by_cases a6 : (c.f6.length : Int) > 20
 ·simp only [if_pos a5, if_pos a6, if_pos (show 70 ≤ (c.f5.length : Int) by omega), if_pos (show 20 ≤ (c.f6.length : Int) by omega)]
  rw [rcopy_is _ _ _ _ _ _ _ (by omega) (by omega)]
  rfl
 ·simp only [if_pos a5, if_neg a6, if_pos (show 70 ≤ (c.f5.length : Int) by omega)]
  rw [rcopy_is _ _ _ _ _ _ _ (by omega) (by omega), e6 a6]
  rfl
 ·simp only [if_neg a5, if_pos a6, if_pos (show 20 ≤ (c.f6.length : Int) by omega)]
  rw [rcopy_is _ _ _ _ _ _ _ (by omega) (by omega), e5 a5]
  rfl
 ·simp only [if_neg a5, if_neg a6]
  rw [rcopy_is _ _ _ _ _ _ _ (by omega) (by omega), e5 a5, e6 a6]
  rfl
end Go.Proofs.Ytehjmmedghcndaa.PG
end
section
namespace Go.Proofs.Ytehjmmedghcndaa.PG
open Go.RowKit Go.Proofs.YtehjmmedghcndaaW.PrintWords Go.Proofs.YtehjmmedghcndaaW.PrintLast Go.Proofs.YtehjmmedghcndaaW.PrintMore
attribute [local go_sem] max2_int min2_int max_two min_two max_three min_three max_four min_four run_store_one   -- for this text's walks alone
set_option linter.unusedVariables false
set_option linter.unusedSimpArgs false
/-! ### selvedgeref18_Free: function 24 -/
end Go.Proofs.Ytehjmmedghcndaa.PG
end
section
namespace Go.Proofs.Ytehjmmedghcndaa.PG
open Go.RowKit Go.Proofs.YtehjmmedghcndaaW.PrintWords Go.Proofs.YtehjmmedghcndaaW.PrintLast Go.Proofs.YtehjmmedghcndaaW.PrintMore
attribute [local go_sem] max2_int min2_int max_two min_two max_three min_three max_four min_four run_store_one   -- for this text's walks alone
set_option linter.unusedVariables false
set_option linter.unusedSimpArgs false
/-! ### selvedgeref18_File: function 41 -/
mutual
def selvedgeref18_File.l0 : Nat → List (S42) → Int → List Int → Int → Option ((List (S42)) × Int × Int × Int)
 | 0, _, _, _, _ => none
 | k + 1, x0, x1, x7, x8 => if x8 < (x0.length : Int) then (if x7.length < 17592186044416 then (selvedgeref18_File.l0 k x0 x1 (x7 ++ [x8]) (wrap64 (x8 + 1))) else (none)) else (selvedgeref18_File.l1 k x0 x1 x7 0)
def selvedgeref18_File.l1 : Nat → List (S42) → Int → List Int → Int → Option ((List (S42)) × Int × Int × Int)
 | 0, _, _, _, _ => none
 | k + 1, x0, x1, x7, x9 => if x9 < (x7.length : Int) then (if 0 ≤ x9 then (if (x0.length : Int) = 0 then (none) else (if (rd x7 x9) ≤ (x0.length : Int) then (if 0 ≤ (Int.tmod (wrap64 (x1 + (rd x7 x9))) (x0.length : Int)) then (if (Int.tmod (wrap64 (x1 + (rd x7 x9))) (x0.length : Int)) < (x0.length : Int) then (if ((rd_T42 x0 (Int.tmod (wrap64 (x1 + (rd x7 x9))) (x0.length : Int))).f3) > 0 then ((selvedgeref18_first.f x0 (Int.tmod (wrap64 (x1 + (rd x7 x9))) (x0.length : Int))).bind fun bt817 => (some (bt817.1, bt817.2.1, bt817.2.2.1, bt817.2.2.2))) else (selvedgeref18_File.l1 k x0 x1 x7 (wrap64 (x9 + 1)))) else (none)) else (none)) else (selvedgeref18_File.l1 k x0 x1 x7 (wrap64 (x9 + 1))))) else (none)) else (some (([] : List (S42)), 0, 0, 4))
end
/-! ### selvedgeref18_Dir: function 42 -/
end Go.Proofs.Ytehjmmedghcndaa.PG
end
section
/-! cyl, plain: the reference's Free, Dir, File are the program's -/
namespace Go.Proofs.Ytehjmmedghcndaa.PG
open Go.RowKit Go.Proofs.YtehjmmedghcndaaW.PrintWords Go.Proofs.YtehjmmedghcndaaW.PrintLast Go.Proofs.YtehjmmedghcndaaW.PrintMore
/-! ### File -/
end Go.Proofs.Ytehjmmedghcndaa.PG
end
section
namespace Go.Proofs.Ytehjmmedghcndaa.PG
open Go.RowKit Go.Proofs.YtehjmmedghcndaaW.PrintWords Go.Proofs.YtehjmmedghcndaaW.PrintLast Go.Proofs.YtehjmmedghcndaaW.PrintMore
attribute [local go_sem] max2_int min2_int max_two min_two max_three min_three max_four min_four run_store_one   -- for this text's walks alone
set_option linter.unusedVariables false
set_option linter.unusedSimpArgs false

set_option maxHeartbeats 4000000 in
set_option maxRecDepth 100000 in
theorem eqA81 (d : Nat) (w : World) (x0 y0 : Int) (x1 y1 : Int) (x2 y2 : Int) (x3 y3 : Int) (x4 y4 : Int) :
  (Op.equalIn (d + 2) 81 (.agg #[.int .i64 x0, .int .i64 x1, .int .i64 x2, .int .i64 x3, .int .i64 x4]) (.agg #[.int .i64 y0, .int .i64 y1, .int .i64 y2, .int .i64 y3, .int .i64 y4])).run Try.prog w = .ok (x0 == y0 && (x1 == y1 && (x2 == y2 && (x3 == y3 && (x4 == y4))))) w := by
 have hs : ∀ W : World, (sizeOf 3).run Try.prog W = .ok 1 W := fun _ => rfl
 simp only [Op.equalIn, run_underlying Try.underlying81, Sem.run_bind, Result.andThen_ok, hs]
 simp [List.range', part, go_sem, Op.equalIn, run_underlying Try.underlying3, hs]
 by_cases h0 : x0 = y0 <;> by_cases h1 : x1 = y1 <;> by_cases h2 : x2 = y2 <;> by_cases h3 : x3 = y3 <;> by_cases h4 : x4 = y4 <;> simp [h0, h1, h2, h3, h4]
end Go.Proofs.Ytehjmmedghcndaa.PG
end
section
namespace Go.Proofs.Ytehjmmedghcndaa.PG
open Go.RowKit Go.Proofs.YtehjmmedghcndaaW.PrintWords Go.Proofs.YtehjmmedghcndaaW.PrintLast Go.Proofs.YtehjmmedghcndaaW.PrintMore
attribute [local go_sem] max2_int min2_int max_two min_two max_three min_three max_four min_four run_store_one   -- for this text's walks alone
set_option linter.unusedVariables false
set_option linter.unusedSimpArgs false
attribute [local go_sem high] eqA81
/-! ### slices_Equal_int_int: function 61 -/
/-! ### cyl_Same: function 28 -/
-- NOT PRINTED: function 6 (selvedgelaw18_CylCounts)

end Go.Proofs.Ytehjmmedghcndaa.PG
end
