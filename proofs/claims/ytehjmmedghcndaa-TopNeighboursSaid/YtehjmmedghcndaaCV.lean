import Derived.Test.YtehjmmedghcndaaCP
import Derived.Test.YtehjmmedghcndaaG3
/-! cyl: what the reference's small functions answer -/
namespace Go.Proofs.Ytehjmmedghcndaa.PG
open Go.RowKit Go.Proofs.YtehjmmedghcndaaW.PrintWords Go.Proofs.YtehjmmedghcndaaW.PrintLast Go.Proofs.YtehjmmedghcndaaW.PrintMore
/-- A number in its place. -/
def insS (n : Int) : List Int → List Int
 | [] => [n]
 | x :: t => if n < x then n :: x :: t else x :: insS n t
theorem insS_put (n b : Int) : ∀ (l : List Int) (a : Int), rise2 a l b = true → l.contains n = false → insS n l = putAt l (ixOf l n) n
 | [], _, _, _ => rfl
 | x :: t, a, h, hc => by
  rw [rise2_cons] at h
  by_cases hx : x ≤ a ∨ x ≥ b
  ·rw [if_pos hx] at h; cases h
  ·rw [if_neg hx] at h
   rw [List.contains_cons, Bool.or_eq_false_iff, beq_eq_false_iff_ne] at hc
   unfold insS ixOf
   by_cases hn : n < x
   ·rw [if_pos hn, List.countP_eq_zero.2 (fun y hy => by
     rcases List.mem_cons.1 hy with rfl | hy
     ·simp; omega
     ·have := ((rise2_all h).1 y hy).1
      simp; omega)]
    rfl
   ·have hlt : x < n := by have := hc.1; omega
    rw [if_neg hn, insS_put n b t x h hc.2, List.countP_cons_of_pos (by simpa using hlt)]
    rfl
end Go.Proofs.Ytehjmmedghcndaa.PG
