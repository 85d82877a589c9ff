import Derived.Test.YtehjmmedghcndaaJ31
import Derived.Test.YtehjmmedghcndaaCE0
import Derived.Test.YtehjmmedghcndaaPGx0
import Derived.Test.YtehjmmedghcndaaCB
import Derived.Test.YtehjmmedghcndaaG3
section
/-! The reference's first. -/
namespace Go.Proofs.Ytehjmmedghcndaa.PG
open Go.RowKit Go.Proofs.YtehjmmedghcndaaW.PrintWords Go.Proofs.YtehjmmedghcndaaW.PrintLast Go.Proofs.YtehjmmedghcndaaW.PrintMore
attribute [local go_sem] Oper.semAt_some
def selvedgeref18_first.f (l : List S42) (g : Int) : Option (List S42 × Int × Int × Int) := if wholeB l = true ∧ 0 ≤ g ∧ g < (l.length : Int) ∧ (rd_T42 l g).f3 ≠ 0 then some (l.set g.toNat (firstC (rd_T42 l g)), g, (mex (rd_T42 l g).f6 : Int), 0) else none
end Go.Proofs.Ytehjmmedghcndaa.PG
end
section
namespace Go.Proofs.Ytehjmmedghcndaa.PG
open Go.RowKit Go.Proofs.YtehjmmedghcndaaW.PrintWords Go.Proofs.YtehjmmedghcndaaW.PrintLast Go.Proofs.YtehjmmedghcndaaW.PrintMore
attribute [local go_sem] max2_int min2_int max_two min_two max_three min_three max_four min_four run_store_one   -- for this text's walks alone
set_option linter.unusedVariables false
set_option linter.unusedSimpArgs false
/-! ### selvedgelaw18_few: function 12 -/
mutual
def selvedgelaw18_few.j0 : Nat → List (S42) → Option ((List (S42)))
 | 0, _ => none
 | k + 1, x0 => selvedgelaw18_few.l0 k x0 ([] : List (S42)) 0
def selvedgelaw18_few.l0 : Nat → List (S42) → List (S42) → Int → Option ((List (S42)))
 | 0, _, _, _ => none
 | k + 1, x0, x3, x4 => if x4 < (x0.length : Int) then (if 0 ≤ x4 then ((selvedgelaw18_one.f ((rd_T42 x0 x4).f0) ((rd_T42 x0 x4).f1) ((rd_T42 x0 x4).f2) ((rd_T42 x0 x4).f3) ((rd_T42 x0 x4).f4) ((rd_T42 x0 x4).f5) ((rd_T42 x0 x4).f6)).bind fun bt107 => (if x3.length < 1599289640401 then (selvedgelaw18_few.l0 k x0 (x3 ++ [(⟨bt107.1, bt107.2.1, bt107.2.2.1, bt107.2.2.2.1, bt107.2.2.2.2.1, bt107.2.2.2.2.2.1, bt107.2.2.2.2.2.2⟩ : S42)]) (wrap64 (x4 + 1))) else (none))) else (none)) else (some x3)
end
/-! ### selvedgeref18_same: function 62 -/
/-! ### selvedgeref18_Same: function 29 -/
/-! ### selvedgeref18_SameAll: function 18 -/
end Go.Proofs.Ytehjmmedghcndaa.PG
end
section
/-! cyl, plain: few, and what is the same -/
namespace Go.Proofs.Ytehjmmedghcndaa.PG
open Go.RowKit Go.Proofs.YtehjmmedghcndaaW.PrintWords Go.Proofs.YtehjmmedghcndaaW.PrintLast Go.Proofs.YtehjmmedghcndaaW.PrintMore
/-- A group with at most so many numbers. -/
def oneS (c : S42) : S42 := ⟨c.f0, c.f1, c.f2, c.f3, c.f4, c.f5.take 70, c.f6.take 20⟩
theorem one_is (c : S42) : selvedgelaw18_one.f c.f0 c.f1 c.f2 c.f3 c.f4 c.f5 c.f6 = some (c.f0, c.f1, c.f2, c.f3, c.f4, c.f5.take 70, c.f6.take 20) := by
 have h5 : (c.f5.take 70).length ≤ 70 := List.length_take_le _ _
 have h6 : (c.f6.take 20).length ≤ 20 := List.length_take_le _ _
 have e5 : ¬ (c.f5.length : Int) > 70 → c.f5.take 70 = c.f5 := fun h => List.take_of_length_le (by omega)
 have e6 : ¬ (c.f6.length : Int) > 20 → c.f6.take 20 = c.f6 := fun h => List.take_of_length_le (by omega)
 unfold selvedgelaw18_one.f
 by_cases a5 : (c.f5.length : Int) > 70 <;> by_cases a6 : (c.f6.length : Int) > 20
 ·simp only [if_pos a5, if_pos a6, if_pos (show 70 ≤ (c.f5.length : Int) by omega), if_pos (show 20 ≤ (c.f6.length : Int) by omega)]
  rw [rcopy_is _ _ _ _ _ _ _ (by omega) (by omega)]
  rfl
 ·simp only [if_pos a5, if_neg a6, if_pos (show 70 ≤ (c.f5.length : Int) by omega)]
  rw [rcopy_is _ _ _ _ _ _ _ (by omega) (by omega), e6 a6]
  rfl
 ·simp only [if_neg a5, if_pos a6, if_pos (show 20 ≤ (c.f6.length : Int) by omega)]
  rw [rcopy_is _ _ _ _ _ _ _ (by omega) (by omega), e5 a5]
  rfl
 ·simp only [if_neg a5, if_neg a6]
  rw [rcopy_is _ _ _ _ _ _ _ (by omega) (by omega), e5 a5, e6 a6]
  rfl
end Go.Proofs.Ytehjmmedghcndaa.PG
end
section
namespace Go.Proofs.Ytehjmmedghcndaa.PG
open Go.RowKit Go.Proofs.YtehjmmedghcndaaW.PrintWords Go.Proofs.YtehjmmedghcndaaW.PrintLast Go.Proofs.YtehjmmedghcndaaW.PrintMore
attribute [local go_sem] max2_int min2_int max_two min_two max_three min_three max_four min_four run_store_one   -- for this text's walks alone
set_option linter.unusedVariables false
set_option linter.unusedSimpArgs false
/-! ### selvedgeref18_Free: function 24 -/
end Go.Proofs.Ytehjmmedghcndaa.PG
end
