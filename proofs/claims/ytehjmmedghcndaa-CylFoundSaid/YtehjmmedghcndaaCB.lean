import Derived.Test.YtehjmmedghcndaaPGx0
import Derived.Test.YtehjmmedghcndaaG3
namespace Go.Proofs.Ytehjmmedghcndaa.PG
open Go.RowKit Go.Proofs.YtehjmmedghcndaaW.PrintWords Go.Proofs.YtehjmmedghcndaaW.PrintLast Go.Proofs.YtehjmmedghcndaaW.PrintMore
attribute [local go_sem] max2_int min2_int max_two min_two max_three min_three max_four min_four run_store_one   -- for this text's walks alone
set_option linter.unusedVariables false
set_option linter.unusedSimpArgs false
/-! ### selvedgelaw18_one: function 25 -/
def selvedgelaw18_one.f (a0_0 : Int) (a0_1 : Int) (a0_2 : Int) (a0_3 : Int) (a0_4 : Int) (l0_5 : List Int) (l0_6 : List Int) : Option (Int × Int × Int × Int × Int × List Int × List Int) := if (l0_5.length : Int) > 70 then (if 70 ≤ (l0_5.length : Int) then (if (l0_6.length : Int) > 20 then (if 20 ≤ (l0_6.length : Int) then ((selvedgeref18_Copy.f a0_0 a0_1 a0_2 a0_3 a0_4 (l0_5.take 70) (l0_6.take 20)).bind fun bt119 => (some (bt119.1, bt119.2.1, bt119.2.2.1, bt119.2.2.2.1, bt119.2.2.2.2.1, bt119.2.2.2.2.2.1, bt119.2.2.2.2.2.2))) else (none)) else ((selvedgeref18_Copy.f a0_0 a0_1 a0_2 a0_3 a0_4 (l0_5.take 70) l0_6).bind fun bt130 => (some (bt130.1, bt130.2.1, bt130.2.2.1, bt130.2.2.2.1, bt130.2.2.2.2.1, bt130.2.2.2.2.2.1, bt130.2.2.2.2.2.2)))) else (none)) else (if (l0_6.length : Int) > 20 then (if 20 ≤ (l0_6.length : Int) then ((selvedgeref18_Copy.f a0_0 a0_1 a0_2 a0_3 a0_4 l0_5 (l0_6.take 20)).bind fun bt142 => (some (bt142.1, bt142.2.1, bt142.2.2.1, bt142.2.2.2.1, bt142.2.2.2.2.1, bt142.2.2.2.2.2.1, bt142.2.2.2.2.2.2))) else (none)) else ((selvedgeref18_Copy.f a0_0 a0_1 a0_2 a0_3 a0_4 l0_5 l0_6).bind fun bt153 => (some (bt153.1, bt153.2.1, bt153.2.2.1, bt153.2.2.2.1, bt153.2.2.2.2.1, bt153.2.2.2.2.2.1, bt153.2.2.2.2.2.2))))
end Go.Proofs.Ytehjmmedghcndaa.PG
