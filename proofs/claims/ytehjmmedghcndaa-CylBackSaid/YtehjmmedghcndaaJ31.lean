import Derived.Test.YtehjmmedghcndaaJ29
import Derived.Test.YtehjmmedghcndaaCU
import Derived.Test.YtehjmmedghcndaaCP
import Derived.Test.YtehjmmedghcndaaG3
section
/-! cyl.File. -/
namespace Go.Proofs.Ytehjmmedghcndaa.PG
open Go.RowKit Go.Proofs.YtehjmmedghcndaaW.PrintWords Go.Proofs.YtehjmmedghcndaaW.PrintLast Go.Proofs.YtehjmmedghcndaaW.PrintMore
attribute [local go_sem] Oper.semAt_some
open Go.Shelf
end Go.Proofs.Ytehjmmedghcndaa.PG
end
section
/-! cyl: what the reference's small functions answer -/
namespace Go.Proofs.Ytehjmmedghcndaa.PG
open Go.RowKit Go.Proofs.YtehjmmedghcndaaW.PrintWords Go.Proofs.YtehjmmedghcndaaW.PrintLast Go.Proofs.YtehjmmedghcndaaW.PrintMore
/-- A number in its place. -/
def insS (n : Int) : List Int → List Int
 | [] => [n]
 | x :: t => if n < x then n :: x :: t else x :: insS n t
theorem insS_put (n b : Int) : ∀ (l : List Int) (a : Int), rise2 a l b = true → l.contains n = false → insS n l = putAt l (ixOf l n) n
 | [], _, _, _ => rfl
 | x :: t, a, h, hc => by
  rw [rise2_cons] at h
  by_cases hx : x ≤ a ∨ x ≥ b
  ·rw [if_pos hx] at h; cases h
  ·rw [if_neg hx] at h
   rw [List.contains_cons, Bool.or_eq_false_iff, beq_eq_false_iff_ne] at hc
   unfold insS ixOf
   by_cases hn : n < x
   ·rw [if_pos hn, List.countP_eq_zero.2 (fun y hy => by
     rcases List.mem_cons.1 hy with rfl | hy
     ·simp; omega
     ·have := ((rise2_all h).1 y hy).1
      simp; omega)]
    rfl
   ·have hlt : x < n := by have := hc.1; omega
    rw [if_neg hn, insS_put n b t x h hc.2, List.countP_cons_of_pos (by simpa using hlt)]
    rfl
theorem rcopy_is (a0 a1 a2 a3 a4 : Int) (l5 l6 : List Int) (h5 : l5.length ≤ 1001) (h6 : l6.length ≤ 1001) : selvedgeref18_Copy.f a0 a1 a2 a3 a4 l5 l6 = some (a0, a1, a2, a3, a4, l5, l6) := by
 unfold selvedgeref18_Copy.f
 rw [Option.bind_some, if_pos (by simp; omega), Option.bind_some, if_pos (by simp; omega)]
 rfl
end Go.Proofs.Ytehjmmedghcndaa.PG
end
