import Derived.Test.YtehjmmedghcndaaJ26
import Derived.Test.YtehjmmedghcndaaCU
import Derived.Test.YtehjmmedghcndaaCP
import Derived.Test.YtehjmmedghcndaaG3
import Derived.Test.YtehjmmedghcndaaPGx0
import Derived.Test.YtehjmmedghcndaaG2
import Derived.Test.YtehjmmedghcndaaJ24
section
/-! cyl.File. -/
namespace Go.Proofs.Ytehjmmedghcndaa.PG
open Go.RowKit Go.Proofs.YtehjmmedghcndaaW.PrintWords Go.Proofs.YtehjmmedghcndaaW.PrintLast Go.Proofs.YtehjmmedghcndaaW.PrintMore
attribute [local go_sem] Oper.semAt_some
open Go.Shelf
end Go.Proofs.Ytehjmmedghcndaa.PG
end
section
/-! cyl: what the reference's small functions answer -/
namespace Go.Proofs.Ytehjmmedghcndaa.PG
open Go.RowKit Go.Proofs.YtehjmmedghcndaaW.PrintWords Go.Proofs.YtehjmmedghcndaaW.PrintLast Go.Proofs.YtehjmmedghcndaaW.PrintMore
/-- A number in its place. -/
def insS (n : Int) : List Int → List Int
 | [] => [n]
 | x :: t => if n < x then n :: x :: t else x :: insS n t
theorem insS_put (n b : Int) : ∀ (l : List Int) (a : Int), rise2 a l b = true → l.contains n = false → insS n l = putAt l (ixOf l n) n
 | [], _, _, _ => rfl
 | x :: t, a, h, hc => by
  rw [rise2_cons] at h
  by_cases hx : x ≤ a ∨ x ≥ b
  ·rw [if_pos hx] at h; cases h
  ·rw [if_neg hx] at h
   rw [List.contains_cons, Bool.or_eq_false_iff, beq_eq_false_iff_ne] at hc
   unfold insS ixOf
   by_cases hn : n < x
   ·rw [if_pos hn, List.countP_eq_zero.2 (fun y hy => by
     rcases List.mem_cons.1 hy with rfl | hy
     ·simp; omega
     ·have := ((rise2_all h).1 y hy).1
      simp; omega)]
    rfl
   ·have hlt : x < n := by have := hc.1; omega
    rw [if_neg hn, insS_put n b t x h hc.2, List.countP_cons_of_pos (by simpa using hlt)]
    rfl
theorem rcopy_is (a0 a1 a2 a3 a4 : Int) (l5 l6 : List Int) (h5 : l5.length ≤ 1001) (h6 : l6.length ≤ 1001) : selvedgeref18_Copy.f a0 a1 a2 a3 a4 l5 l6 = some (a0, a1, a2, a3, a4, l5, l6) := by
 unfold selvedgeref18_Copy.f
 rw [Option.bind_some, if_pos (by simp; omega), Option.bind_some, if_pos (by simp; omega)]
 rfl
end Go.Proofs.Ytehjmmedghcndaa.PG
end
section
/-! cyl, plain: groups stay right: behind a take, behind an inode taken -/
namespace Go.Proofs.Ytehjmmedghcndaa.PG
open Go.RowKit Go.Proofs.YtehjmmedghcndaaW.PrintWords Go.Proofs.YtehjmmedghcndaaW.PrintLast Go.Proofs.YtehjmmedghcndaaW.PrintMore
theorem rise_ins (x b : Int) : ∀ (l : List Int) (a : Int), rise2 a l b = true → l.contains x = false → a < x → x < b → rise2 a (insS x l) b = true
 | [], a, _, _, h1, h2 => by
  show rise2 a [x] b = true
  rw [rise2_cons, if_neg (by omega)]
  rfl
 | y :: t, a, h, hc, h1, h2 => by
  rw [rise2_cons] at h
  by_cases hy : y ≤ a ∨ y ≥ b
  ·rw [if_pos hy] at h; cases h
  ·rw [if_neg hy] at h
   rw [List.contains_cons, Bool.or_eq_false_iff, beq_eq_false_iff_ne] at hc
   show rise2 a (if x < y then x :: y :: t else y :: insS x t) b = true
   by_cases hx : x < y
   ·rw [if_pos hx, rise2_cons, if_neg (by omega), rise2_cons, if_neg (by omega)]
    exact h
   ·rw [if_neg hx, rise2_cons, if_neg hy]
    have := hc.1
    exact rise_ins x b t y h hc.2 (by omega) h2
theorem rise_put {x a b : Int} {l : List Int} (h : rise2 a l b = true) (hc : l.contains x = false) (h1 : a < x) (h2 : x < b) : rise2 a (putAt l (ixOf l x) x) b = true := by
 rw [← insS_put x b l a h hc]
 exact rise_ins x b l a h hc h1 h2
theorem RightP.take {c : S42} (h : RightP c) {b : Int} (h0 : 0 ≤ b) (h1 : b < c.f1) (hc : c.f5.contains b = false) : RightP (takeC c b) := by
 have hb0 := h.b0
 refine ⟨h.i0, h.i1, h.b0, h.b1, ?_, ?_, rise_put h.u hc (by omega) h1, h.n, ?_, rfl⟩
 ·show 0 ≤ (b + 1) % c.f1
  exact Int.emod_nonneg _ (by omega)
 ·show (b + 1) % c.f1 < c.f1
  exact Int.emod_lt_of_pos _ (by omega)
 ·show c.f1 - ((c.f5.length : Int) + 1) = c.f1 - ((putAt c.f5 (ixOf c.f5 b) b).length : Int)
  rw [putAt_len]
  omega
theorem RightP.first {c : S42} (h : RightP c) (hz : c.f3 ≠ 0) : RightP (firstC c) := by
 have hfi := h.fi
 have hm := mex_le c.f6
 have hl := h.nlen
 obtain ⟨m1, m2, _⟩ := mex_at h.n
 refine ⟨h.i0, h.i1, h.b0, h.b1, h.r0, h.r1, h.u, ?_, rfl, ?_⟩
 ·show rise2 (-1) (putAt c.f6 (mex c.f6) (mex c.f6 : Int)) 16 = true
  have := rise_put h.n m1 (by omega) (by omega)
  rw [m2] at this
  exact this
 ·show 16 - ((c.f6.length : Int) + 1) = 16 - ((putAt c.f6 (mex c.f6) (mex c.f6 : Int)).length : Int)
  rw [putAt_len]
  omega
theorem WholeP.set {l : List S42} (h : WholeP l) (i : Nat) {c : S42} (hc : RightP c) (h0 : c.f0 = (i : Int)) : WholeP (l.set i c) := ⟨by rw [List.length_set]; exact h.n0, by rw [List.length_set]; exact h.n1, fun j hj => by
 rw [List.length_set] at hj
 rw [List.getElem_set]
 by_cases e : i = j
 ·subst e
  rw [if_pos rfl]
  exact ⟨h0, hc⟩
 ·rw [if_neg e]
  exact h.at_ j hj⟩
end Go.Proofs.Ytehjmmedghcndaa.PG
end
section
namespace Go.Proofs.Ytehjmmedghcndaa.PG
open Go.RowKit Go.Proofs.YtehjmmedghcndaaW.PrintWords Go.Proofs.YtehjmmedghcndaaW.PrintLast Go.Proofs.YtehjmmedghcndaaW.PrintMore
attribute [local go_sem] max2_int min2_int max_two min_two max_three min_three max_four min_four run_store_one   -- for this text's walks alone
set_option linter.unusedVariables false
set_option linter.unusedSimpArgs false
/-! ### cyl_Free: function 22 -/
/-! ### cyl_Dir: function 23 -/
end Go.Proofs.Ytehjmmedghcndaa.PG
end
section
/-! cyl, plain: Free, Dir -/
namespace Go.Proofs.Ytehjmmedghcndaa.PG
open Go.RowKit Go.Proofs.YtehjmmedghcndaaW.PrintWords Go.Proofs.YtehjmmedghcndaaW.PrintLast Go.Proofs.YtehjmmedghcndaaW.PrintMore
theorem WholeP.mem {l : List S42} (h : WholeP l) : ∀ c ∈ l, RightP c := fun c hc => by
 obtain ⟨j, hj, rfl⟩ := List.mem_iff_getElem.1 hc
 exact (h.at_ j hj).2
end Go.Proofs.Ytehjmmedghcndaa.PG
end
section
/-! cyl.Spread. -/
namespace Go.Proofs.Ytehjmmedghcndaa.PG
open Go.RowKit Go.Proofs.YtehjmmedghcndaaW.PrintWords Go.Proofs.YtehjmmedghcndaaW.PrintLast Go.Proofs.YtehjmmedghcndaaW.PrintMore
attribute [local go_sem] Oper.semAt_some
end Go.Proofs.Ytehjmmedghcndaa.PG
end
