import Derived.Test.YtehjmmedghcndaaJ28
import Derived.Test.YtehjmmedghcndaaGL
import Derived.Test.YtehjmmedghcndaaJ41
/-! CylCounts, plain -/
namespace Go.Proofs.Ytehjmmedghcndaa.PG
open Go.RowKit Go.Proofs.YtehjmmedghcndaaW.PrintWords Go.Proofs.YtehjmmedghcndaaW.PrintLast Go.Proofs.YtehjmmedghcndaaW.PrintMore
theorem drop_eq {l m : List Int} {i : Nat} (hl : i < l.length) (hm : i < m.length) : (l.drop i = m.drop i) ↔ (l[i] = m[i] ∧ l.drop (i + 1) = m.drop (i + 1)) := by
 rw [List.drop_eq_getElem_cons hl, List.drop_eq_getElem_cons hm, List.cons.injEq]
theorem rsame2_l0 (l m : List Int) (hl : l.length ≤ 1000) (hm : m.length = l.length) : ∀ (q i : Nat) (k : Nat), i + q = l.length → selvedgeref18_same.l0 (k + q + 1) l m (i : Int) = some (decide (l.drop i = m.drop i))
 | 0, i, k, h => by
  rw [selvedgeref18_same.l0, if_neg (by omega), List.drop_of_length_le (by omega), List.drop_of_length_le (by omega)]
  simp
 | q + 1, i, k, h => by
  have hi : i < l.length := by omega
  have hi2 : i < m.length := by omega
  rw [show k + (q + 1) + 1 = (k + q + 1) + 1 by omega, selvedgeref18_same.l0, if_pos (by omega), if_pos (by omega), if_pos (by omega), rd_at l i hi, rd_at m i hi2, w64s i (by omega), rsame2_l0 l m hl hm q (i + 1) k (by omega)]
  by_cases e : l[i] = m[i]
  ·rw [if_pos e]
   simp only [drop_eq hi hi2, e, true_and]
  ·rw [if_neg e]
   simp [drop_eq hi hi2, e]
theorem rsame2_is (l m : List Int) (hl : l.length ≤ 1000) (k : Nat) : selvedgeref18_same.f (k + 1001) l m = some (decide (l = m)) := by
 unfold selvedgeref18_same.f
 by_cases h : l.length = m.length
 ·rw [if_pos (by omega)]
  have := rsame2_l0 l m hl h.symm l.length 0 (k + (1000 - l.length)) (by omega)
  rw [show k + (1000 - l.length) + l.length + 1 = k + 1001 by omega] at this
  rw [show (0 : Int) = ((0 : Nat) : Int) from rfl, this, List.drop_zero, List.drop_zero]
 ·rw [if_neg (by omega)]
  have : ¬ l = m := fun e => h (by rw [e])
  simp [this]
/-- Two groups that read alike. -/
def sameB (x y : S42) : Bool := decide (x.f0 = y.f0) && (decide (x.f1 = y.f1) && (decide (x.f2 = y.f2) && (decide (x.f3 = y.f3) && (decide (x.f4 = y.f4) && (decide (x.f5 = y.f5) && decide (x.f6 = y.f6))))))
theorem rsameC_is (x y : S42) (hx : SmallC x) (k : Nat) : selvedgeref18_Same.f (k + 1001) x.f0 x.f1 x.f2 x.f3 x.f4 x.f5 x.f6 y.f0 y.f1 y.f2 y.f3 y.f4 y.f5 y.f6 = some (sameB x y) := by
 unfold selvedgeref18_Same.f sameB
 rw [rsame2_is _ _ hx.1, rsame2_is _ _ hx.2, Option.bind_some, Option.bind_some]
 by_cases e0 : x.f0 = y.f0
 ·rw [if_pos e0]
  by_cases e1 : x.f1 = y.f1
  ·rw [if_pos e1]
   by_cases e2 : x.f2 = y.f2
   ·rw [if_pos e2]
    by_cases e3 : x.f3 = y.f3
    ·rw [if_pos e3]
     by_cases e4 : x.f4 = y.f4
     ·rw [if_pos e4]
      simp only [e0, e1, e2, e3, e4, decide_true, Bool.true_and]
      cases decide (x.f5 = y.f5) <;> rfl
     ·rw [if_neg e4]; simp [e4]
    ·rw [if_neg e3]; simp [e3]
   ·rw [if_neg e2]; simp [e2]
  ·rw [if_neg e1]; simp [e1]
 ·rw [if_neg e0]; simp [e0]
theorem sameB_self (x : S42) : sameB x x = true := by simp [sameB]
end Go.Proofs.Ytehjmmedghcndaa.PG
