import Derived.Test.YtehjmmedghcndaaPGx0
import Derived.Test.YtehjmmedghcndaaPGx1
namespace Go.Proofs.Ytehjmmedghcndaa.PG
open Go.RowKit Go.Proofs.YtehjmmedghcndaaW.PrintWords Go.Proofs.YtehjmmedghcndaaW.PrintLast Go.Proofs.YtehjmmedghcndaaW.PrintMore
attribute [local go_sem] max2_int min2_int max_two min_two max_three min_three max_four min_four run_store_one   -- for this text's walks alone
set_option linter.unusedVariables false
set_option linter.unusedSimpArgs false
attribute [local go_sem high] eqA24
/-! ### selvedgeref18_rising: function 69 -/
def selvedgeref18_rising.l0 : Nat → List Int → Int → Int → Option (Bool)
 | 0, _, _, _ => none
 | k + 1, x0, x1, x5 => if x5 < (x0.length : Int) then (if 0 ≤ x5 then (if (rd x0 x5) < 0 then (some false) else (if (rd x0 x5) ≥ x1 then (some false) else (if x5 > 0 then (if 0 ≤ (wrap64 (x5 - 1)) then (if (wrap64 (x5 - 1)) < (x0.length : Int) then (if (rd x0 x5) ≤ (rd x0 (wrap64 (x5 - 1))) then (some false) else (selvedgeref18_rising.l0 k x0 x1 (wrap64 (x5 + 1)))) else (none)) else (none)) else (selvedgeref18_rising.l0 k x0 x1 (wrap64 (x5 + 1)))))) else (none)) else (some true)
def selvedgeref18_rising.f (k : Nat) (l0 : List Int) (a1 : Int) : Option (Bool) := selvedgeref18_rising.l0 k l0 a1 0
/-! ### selvedgeref18_Right: function 39 -/
def selvedgeref18_Right.f (k : Nat) (a0_0 : Int) (a0_1 : Int) (a0_2 : Int) (a0_3 : Int) (a0_4 : Int) (l0_5 : List Int) (l0_6 : List Int) : Option (Bool) := if a0_0 ≥ 0 then (if a0_0 < 16 then (if a0_1 ≥ 1 then (if a0_1 ≤ 64 then (if a0_4 ≥ 0 then (if a0_4 < a0_1 then ((selvedgeref18_rising.f k l0_5 a0_1).bind fun t193 => (if t193 = true then ((selvedgeref18_rising.f k l0_6 16).bind fun t194 => (if t194 = true then (if a0_2 = (wrap64 (a0_1 - (l0_5.length : Int))) then (some (a0_3 == (wrap64 (16 - (l0_6.length : Int))))) else (some false)) else (some false))) else (some false))) else (some false)) else (some false)) else (some false)) else (some false)) else (some false)) else (some false)
/-! ### selvedgeref18_Whole: function 20 -/
mutual
def selvedgeref18_Whole.l0 : Nat → List (S42) → Int → Option (Bool)
 | 0, _, _ => none
 | k + 1, x0, x3 => if x3 < (x0.length : Int) then (selvedgeref18_Whole.j1 k x0 x3 (decide (x3 ≤ 16))) else (selvedgeref18_Whole.j1 k x0 x3 false)
def selvedgeref18_Whole.j1 : Nat → List (S42) → Int → Bool → Option (Bool)
 | 0, _, _, _ => none
 | k + 1, x0, x3, x11 => if x11 = true then (if 0 ≤ x3 then (if x3 < (x0.length : Int) then (if ((rd_T42 x0 x3).f0) = x3 then ((selvedgeref18_Right.f k ((rd_T42 x0 x3).f0) ((rd_T42 x0 x3).f1) ((rd_T42 x0 x3).f2) ((rd_T42 x0 x3).f3) ((rd_T42 x0 x3).f4) ((rd_T42 x0 x3).f5) ((rd_T42 x0 x3).f6)).bind fun t197 => (if t197 = true then (selvedgeref18_Whole.l0 k x0 (wrap64 (x3 + 1))) else (some false))) else (some false)) else (none)) else (none)) else (if (x0.length : Int) ≥ 1 then (some (decide ((x0.length : Int) ≤ 16))) else (some false))
end
/-! ### selvedgeref18_has: function 51 -/
/-! ### selvedgeref18_Copy: function 57 -/
/-! ### selvedgeref18_set: function 53 -/
/-! ### selvedgeref18_without: function 55 -/
/-! ### selvedgeref18_New: function 37 -/
def selvedgeref18_New.f (k : Nat) (a0 : Int) (a1 : Int) : Option (Int × Int × Int × Int × Int × List Int × List Int × Int) := (selvedgeref18_Right.f k a0 a1 a1 16 0 ([] : List Int) ([] : List Int)).bind fun t324 => (if t324 = true then (some (a0, a1, a1, 16, 0, ([] : List Int), ([] : List Int), 0)) else (some (0, 0, 0, 0, 0, ([] : List Int), ([] : List Int), 2)))
/-! ### selvedgeref18_with: function 52 -/
end Go.Proofs.Ytehjmmedghcndaa.PG
