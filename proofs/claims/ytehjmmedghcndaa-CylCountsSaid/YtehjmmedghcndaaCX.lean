import Derived.Test.YtehjmmedghcndaaJ33
import Derived.Test.YtehjmmedghcndaaCB
import Derived.Test.YtehjmmedghcndaaG4
/-! cyl, plain: few, and what is the same -/
namespace Go.Proofs.Ytehjmmedghcndaa.PG
open Go.RowKit Go.Proofs.YtehjmmedghcndaaW.PrintWords Go.Proofs.YtehjmmedghcndaaW.PrintLast Go.Proofs.YtehjmmedghcndaaW.PrintMore
/-- A group with at most so many numbers. -/
def oneS (c : S42) : S42 := ⟨c.f0, c.f1, c.f2, c.f3, c.f4, c.f5.take 70, c.f6.take 20⟩
theorem one_is (c : S42) : selvedgelaw18_one.f c.f0 c.f1 c.f2 c.f3 c.f4 c.f5 c.f6 = some (c.f0, c.f1, c.f2, c.f3, c.f4, c.f5.take 70, c.f6.take 20) := by
 have h5 : (c.f5.take 70).length ≤ 70 := List.length_take_le _ _
 have h6 : (c.f6.take 20).length ≤ 20 := List.length_take_le _ _
 have e5 : ¬ (c.f5.length : Int) > 70 → c.f5.take 70 = c.f5 := fun h => List.take_of_length_le (by omega)
 have e6 : ¬ (c.f6.length : Int) > 20 → c.f6.take 20 = c.f6 := fun h => List.take_of_length_le (by omega)
 unfold selvedgelaw18_one.f
 by_cases a5 : (c.f5.length : Int) > 70 <;> by_cases a6 : (c.f6.length : Int) > 20
 ·simp only [if_pos a5, if_pos a6, if_pos (show 70 ≤ (c.f5.length : Int) by omega), if_pos (show 20 ≤ (c.f6.length : Int) by omega)]
  rw [rcopy_is _ _ _ _ _ _ _ (by omega) (by omega)]
  rfl
 ·simp only [if_pos a5, if_neg a6, if_pos (show 70 ≤ (c.f5.length : Int) by omega)]
  rw [rcopy_is _ _ _ _ _ _ _ (by omega) (by omega), e6 a6]
  rfl
 ·simp only [if_neg a5, if_pos a6, if_pos (show 20 ≤ (c.f6.length : Int) by omega)]
  rw [rcopy_is _ _ _ _ _ _ _ (by omega) (by omega), e5 a5]
  rfl
 ·simp only [if_neg a5, if_neg a6]
  rw [rcopy_is _ _ _ _ _ _ _ (by omega) (by omega), e5 a5, e6 a6]
  rfl
theorem few_l0 (l : List S42) (hl : l.length ≤ 1000) : ∀ (q i : Nat) (out : List S42) (k : Nat), i + q = l.length → out.length = i → selvedgelaw18_few.l0 (k + q + 1) l out (i : Int) = some (out ++ (l.drop i).map oneS)
 | 0, i, out, k, h, ho => by
  rw [show k + 0 + 1 = k + 1 by omega, selvedgelaw18_few.l0, if_neg (by omega), List.drop_of_length_le (by omega), List.map_nil, List.append_nil]
 | q + 1, i, out, k, h, ho => by
  have hi : i < l.length := by omega
  rw [show k + (q + 1) + 1 = (k + q + 1) + 1 by omega, selvedgelaw18_few.l0, if_pos (by omega), if_pos (by omega), rdT_at l i hi, one_is, Option.bind_some, if_pos (by omega), w64s i (by omega), few_l0 l hl q (i + 1) _ k (by omega) (by rw [List.length_append, List.length_singleton]; omega), List.drop_eq_getElem_cons hi, List.map_cons, List.append_assoc]
  rfl
theorem few_is (l : List S42) (k : Nat) : selvedgelaw18_few.f (k + 20) l = some ((l.take 18).map oneS) := by
 have h := few_l0 (l.take 18) (by rw [List.length_take]; omega) (l.take 18).length 0 [] (k + (18 - (l.take 18).length)) (by omega) rfl
 have hl : (l.take 18).length ≤ 18 := List.length_take_le _ _
 rw [List.drop_zero, List.nil_append, show k + (18 - (l.take 18).length) + (l.take 18).length + 1 = k + 19 by omega] at h
 unfold selvedgelaw18_few.f
 by_cases hh : (l.length : Int) > 18
 ·rw [if_pos hh, if_pos (by omega), show k + 20 = (k + 19) + 1 by omega, selvedgelaw18_few.j0]
  exact h
 ·rw [if_neg hh, show k + 20 = (k + 19) + 1 by omega, selvedgelaw18_few.j0]
  rw [List.take_of_length_le (by omega)] at h ⊢
  exact h
theorem few_small (l : List S42) : SmallL ((l.take 18).map oneS) := ⟨by rw [List.length_map, List.length_take]; omega, fun c hc => by
 obtain ⟨d, _, rfl⟩ := List.mem_map.1 hc
 have h5 : (d.f5.take 70).length ≤ 70 := List.length_take_le _ _
 have h6 : (d.f6.take 20).length ≤ 20 := List.length_take_le _ _
 exact ⟨by show (d.f5.take 70).length ≤ 1000; omega, by show (d.f6.take 20).length ≤ 1000; omega⟩⟩
end Go.Proofs.Ytehjmmedghcndaa.PG
