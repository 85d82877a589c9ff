import Derived.Test.YtehjmmedghcndaaPGx0
import Derived.Test.YtehjmmedghcndaaG1
import Derived.Test.YtehjmmedghcndaaCM
import Derived.Test.YtehjmmedghcndaaG3
import Derived.Test.YtehjmmedghcndaaCX
import Derived.Test.YtehjmmedghcndaaCE0
section
namespace Go.Proofs.Ytehjmmedghcndaa.PG
open Go.RowKit Go.Proofs.YtehjmmedghcndaaW.PrintWords Go.Proofs.YtehjmmedghcndaaW.PrintLast Go.Proofs.YtehjmmedghcndaaW.PrintMore
attribute [local go_sem] max2_int min2_int max_two min_two max_three min_three max_four min_four run_store_one   -- for this text's walks alone
set_option linter.unusedVariables false
set_option linter.unusedSimpArgs false
/-! ### cyl_Give: function 15 -/
end Go.Proofs.Ytehjmmedghcndaa.PG
end
section
namespace Go.Proofs.Ytehjmmedghcndaa.PG
open Go.RowKit Go.Proofs.YtehjmmedghcndaaW.PrintWords Go.Proofs.YtehjmmedghcndaaW.PrintLast Go.Proofs.YtehjmmedghcndaaW.PrintMore
attribute [local go_sem] max2_int min2_int max_two min_two max_three min_three max_four min_four run_store_one   -- for this text's walks alone
set_option linter.unusedVariables false
set_option linter.unusedSimpArgs false
/-! ### selvedgeref18_Give: function 16 -/
end Go.Proofs.Ytehjmmedghcndaa.PG
end
section
/-! cyl, plain: Give on both sides -/
namespace Go.Proofs.Ytehjmmedghcndaa.PG
open Go.RowKit Go.Proofs.YtehjmmedghcndaaW.PrintWords Go.Proofs.YtehjmmedghcndaaW.PrintLast Go.Proofs.YtehjmmedghcndaaW.PrintMore
/-- Numbers without one. -/
def lessS (l : List Int) (n : Int) : List Int := l.filter (fun x => !(x == n))
theorem rwithout_l0 (l : List Int) (hl : l.length ≤ 1000) (n : Int) : ∀ (q i : Nat) (out : List Int) (k : Nat), i + q = l.length → out.length ≤ i → selvedgeref18_without.l0 (k + q + 1) l n out (i : Int) = some (out ++ lessS (l.drop i) n)
 | 0, i, out, k, h, ho => by
  rw [show k + 0 + 1 = k + 1 by omega, selvedgeref18_without.l0, if_neg (by omega), List.drop_of_length_le (by omega)]
  simp [lessS]
 | q + 1, i, out, k, h, ho => by
  have hi : i < l.length := by omega
  rw [show k + (q + 1) + 1 = (k + q + 1) + 1 by omega, selvedgeref18_without.l0, if_pos (by omega), if_pos (by omega), rd_at l i hi, w64s i (by omega), List.drop_eq_getElem_cons hi]
  by_cases he : l[i] = n
  ·rw [if_pos he, rwithout_l0 l hl n q (i + 1) _ k (by omega) (by omega)]
   simp [lessS, he]
  ·rw [if_neg he, if_pos (by omega), rwithout_l0 l hl n q (i + 1) _ k (by omega) (by rw [List.length_append, List.length_singleton]; omega), List.append_assoc]
   unfold lessS
   rw [List.filter_cons_of_pos (by simp [he])]
   rfl
theorem rwithout_is (l : List Int) (hl : l.length ≤ 1000) (n : Int) (k : Nat) : selvedgeref18_without.f (k + 1001) l n = some (lessS l n) := by
 have h := rwithout_l0 l hl n l.length 0 [] (k + (1000 - l.length)) (by omega) (by simp)
 rw [List.drop_zero, List.nil_append] at h
 unfold selvedgeref18_without.f
 rw [show k + 1001 = k + (1000 - l.length) + l.length + 1 from by omega]
 exact h
theorem less_cut (n b : Int) : ∀ (l : List Int) (a : Int), rise2 a l b = true → l.contains n = true → ixOf l n < l.length ∧ l.take (ixOf l n) ++ l.drop (ixOf l n + 1) = lessS l n
 | [], _, _, h => by cases h
 | x :: t, a, h, hc => by
  rw [rise2_cons] at h
  by_cases hx : x ≤ a ∨ x ≥ b
  ·rw [if_pos hx] at h; cases h
  ·rw [if_neg hx] at h
   have hall := (rise2_all h).1
   by_cases he : x = n
   ·subst he
    have h0 : ixOf (x :: t) x = 0 := List.countP_eq_zero.2 (fun y hy => by
     rcases List.mem_cons.1 hy with rfl | hy
     ·simp
     ·have := (hall y hy).1
      simp; omega)
    rw [h0]
    refine ⟨by simp, ?_⟩
    show t = lessS (x :: t) x
    unfold lessS
    rw [List.filter_cons_of_neg (by simp), List.filter_eq_self.2 (fun y hy => by have := (hall y hy).1; simp; omega)]
   ·rw [List.contains_cons, Bool.or_eq_true, beq_iff_eq] at hc
    have hc2 : t.contains n = true := hc.resolve_left (fun e => he e.symm)
    have hm : n ∈ t := by simpa using hc2
    have hlt := (hall n hm).1
    have h1 : ixOf (x :: t) n = ixOf t n + 1 := List.countP_cons_of_pos (by simpa using hlt)
    obtain ⟨i1, i2⟩ := less_cut n b t x h hc2
    rw [h1]
    refine ⟨by simp; omega, ?_⟩
    show x :: (t.take (ixOf t n) ++ t.drop (ixOf t n + 1)) = lessS (x :: t) n
    rw [i2]
    unfold lessS
    rw [List.filter_cons_of_pos (by simp [he])]
theorem remove_is (l : List Int) (a b : Int) (hr : rise2 a l b = true) (hl : l.length ≤ 1000) (n : Int) (k : Nat) : cyl_remove.f (k + 1001) l n = some (if l.contains n = true then (lessS l n, true) else (l, false)) := by
 have hu := (rise2_all hr).2
 unfold cyl_remove.f
 rw [bs_is l hu hl n k, Option.bind_some]
 by_cases hc : l.contains n = true
 ·obtain ⟨h1, h2⟩ := less_cut n b l a hr hc
  have hw : wrap64 ((ixOf l n : Int) + 1) = ((ixOf l n + 1 : Nat) : Int) := w64s _ (by omega)
  rw [if_pos hc, if_pos hc]
  unfold slices_Clone_int_int.f
  rw [if_pos (by omega), Option.bind_some, hw]
  unfold slices_Delete_int_int.f
  rw [if_pos ⟨by omega, by omega, by omega, by omega⟩, Int.toNat_natCast, Int.toNat_natCast, h2]
  rfl
 ·rw [if_neg hc, if_neg hc]
end Go.Proofs.Ytehjmmedghcndaa.PG
end
