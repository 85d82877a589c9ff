import Derived.Test.YtehjmmedghcndaaPGx0
import Derived.Test.YtehjmmedghcndaaG3
import Derived.Test.YtehjmmedghcndaaCI
namespace Go.Proofs.Ytehjmmedghcndaa.PG
open Go.RowKit Go.Proofs.YtehjmmedghcndaaW.PrintWords Go.Proofs.YtehjmmedghcndaaW.PrintLast Go.Proofs.YtehjmmedghcndaaW.PrintMore
attribute [local go_sem] max2_int min2_int max_two min_two max_three min_three max_four min_four run_store_one   -- for this text's walks alone
set_option linter.unusedVariables false
set_option linter.unusedSimpArgs false
/-! ### selvedgelaw18_made: function 21 -/
mutual
def selvedgelaw18_made.j1 : Nat → List Int → List (S42) → Option ((List (S42)))
 | 0, _, _ => none
 | k + 1, x1, x5 => selvedgelaw18_made.l1 k x1 x5 0
def selvedgelaw18_made.l1 : Nat → List Int → List (S42) → Int → Option ((List (S42)))
 | 0, _, _, _ => none
 | k + 1, x1, x5, x9 => if x9 < (x1.length : Int) then (if x9 < 60 then (selvedgelaw18_made.j3 k x1 x5 x9 (decide ((x5.length : Int) > 0))) else (selvedgelaw18_made.j3 k x1 x5 x9 false)) else (selvedgelaw18_made.j3 k x1 x5 x9 false)
def selvedgelaw18_made.j3 : Nat → List Int → List (S42) → Int → Bool → Option ((List (S42)))
 | 0, _, _, _, _ => none
 | k + 1, x1, x5, x9, x52 => if x52 = true then (if 0 ≤ x9 then (if x9 < (x1.length : Int) then (if (x5.length : Int) = 0 then (none) else (if 0 ≤ (Int.tmod (wrap64 (rd x1 x9)) (x5.length : Int)) then (if (Int.tmod (wrap64 (rd x1 x9)) (x5.length : Int)) < (x5.length : Int) then (if ((rd_T42 x5 (Int.tmod (wrap64 (rd x1 x9)) (x5.length : Int))).f1) = 0 then (none) else ((selvedgeref18_Take.f x5 (Int.tmod (wrap64 (rd x1 x9)) (x5.length : Int)) (Int.tmod (wrap64 (rd x1 x9)) ((rd_T42 x5 (Int.tmod (wrap64 (rd x1 x9)) (x5.length : Int))).f1))).bind fun bt345 => (if bt345.2.2.2 = 0 then (selvedgelaw18_made.l1 k x1 bt345.1 (wrap64 (x9 + 1))) else (selvedgelaw18_made.l1 k x1 x5 (wrap64 (x9 + 1)))))) else (none)) else (none))) else (none)) else (none)) else (some x5)
def selvedgelaw18_made.l0 : Nat → List Int → List Int → List (S42) → Int → Option ((List (S42)))
 | 0, _, _, _, _ => none
 | k + 1, x0, x1, x5, x6 => if x6 < (x0.length : Int) then (if x6 < 16 then (if 0 ≤ x6 then ((selvedgeref18_New.f k x6 (wrap64 ((Int.tmod (wrap64 (rd x0 x6)) 64) + 1))).bind fun bt326 => (if x5.length < 1599289640401 then (selvedgelaw18_made.l0 k x0 x1 (x5 ++ [(⟨bt326.1, bt326.2.1, bt326.2.2.1, bt326.2.2.2.1, bt326.2.2.2.2.1, bt326.2.2.2.2.2.1, bt326.2.2.2.2.2.2.1⟩ : S42)]) (wrap64 (x6 + 1))) else (none))) else (none)) else (selvedgelaw18_made.j1 k x1 x5)) else (selvedgelaw18_made.j1 k x1 x5)
end
end Go.Proofs.Ytehjmmedghcndaa.PG
