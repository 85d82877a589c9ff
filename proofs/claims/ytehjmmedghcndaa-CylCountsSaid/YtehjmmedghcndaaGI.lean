import Derived.Test.YtehjmmedghcndaaPGx0
import Derived.Test.YtehjmmedghcndaaG3
import Derived.Test.YtehjmmedghcndaaCN
import Derived.Test.YtehjmmedghcndaaGD
namespace Go.Proofs.Ytehjmmedghcndaa.PG
open Go.RowKit Go.Proofs.YtehjmmedghcndaaW.PrintWords Go.Proofs.YtehjmmedghcndaaW.PrintLast Go.Proofs.YtehjmmedghcndaaW.PrintMore
attribute [local go_sem] max2_int min2_int max_two min_two max_three min_three max_four min_four run_store_one   -- for this text's walks alone
set_option linter.unusedVariables false
set_option linter.unusedSimpArgs false
/-! ### selvedgeref18_File: function 41 -/
mutual
def selvedgeref18_File.l0 : Nat → List (S42) → Int → List Int → Int → Option ((List (S42)) × Int × Int × Int)
 | 0, _, _, _, _ => none
 | k + 1, x0, x1, x7, x8 => if x8 < (x0.length : Int) then (if x7.length < 17592186044416 then (selvedgeref18_File.l0 k x0 x1 (x7 ++ [x8]) (wrap64 (x8 + 1))) else (none)) else (selvedgeref18_File.l1 k x0 x1 x7 0)
def selvedgeref18_File.l1 : Nat → List (S42) → Int → List Int → Int → Option ((List (S42)) × Int × Int × Int)
 | 0, _, _, _, _ => none
 | k + 1, x0, x1, x7, x9 => if x9 < (x7.length : Int) then (if 0 ≤ x9 then (if (x0.length : Int) = 0 then (none) else (if (rd x7 x9) ≤ (x0.length : Int) then (if 0 ≤ (Int.tmod (wrap64 (x1 + (rd x7 x9))) (x0.length : Int)) then (if (Int.tmod (wrap64 (x1 + (rd x7 x9))) (x0.length : Int)) < (x0.length : Int) then (if ((rd_T42 x0 (Int.tmod (wrap64 (x1 + (rd x7 x9))) (x0.length : Int))).f3) > 0 then ((selvedgeref18_first.f x0 (Int.tmod (wrap64 (x1 + (rd x7 x9))) (x0.length : Int))).bind fun bt817 => (some (bt817.1, bt817.2.1, bt817.2.2.1, bt817.2.2.2))) else (selvedgeref18_File.l1 k x0 x1 x7 (wrap64 (x9 + 1)))) else (none)) else (none)) else (selvedgeref18_File.l1 k x0 x1 x7 (wrap64 (x9 + 1))))) else (none)) else (some (([] : List (S42)), 0, 0, 4))
end
/-! ### selvedgeref18_Dir: function 42 -/
end Go.Proofs.Ytehjmmedghcndaa.PG
