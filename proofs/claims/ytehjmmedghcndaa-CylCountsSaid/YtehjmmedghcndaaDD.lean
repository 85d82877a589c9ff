import Derived.Test.YtehjmmedghcndaaDC
import Derived.Test.YtehjmmedghcndaaGI
import Derived.Test.YtehjmmedghcndaaJ33
/-! cyl, plain: the reference's Free, Dir, File are the program's -/
namespace Go.Proofs.Ytehjmmedghcndaa.PG
open Go.RowKit Go.Proofs.YtehjmmedghcndaaW.PrintWords Go.Proofs.YtehjmmedghcndaaW.PrintLast Go.Proofs.YtehjmmedghcndaaW.PrintMore
theorem rfree_l0 (l : List S42) (hw : WholeP l) : ∀ (q i : Nat) (a b : Int) (k : Nat), i + q = l.length → 0 ≤ a → a ≤ 64 * (i : Int) → 0 ≤ b → b ≤ 16 * (i : Int) → selvedgeref18_Free.l0 (k + q + 3005) l a b (i : Int) = some (a + sumB (l.drop i), b + sumI (l.drop i))
 | 0, i, a, b, k, h, _, _, _, _ => by
  rw [show k + 0 + 3005 = (k + 3004) + 1 by omega, selvedgeref18_Free.l0, rwhole_is l hw.small, Option.bind_some, (whole_iff l).2 hw, if_pos rfl, if_neg (by omega), List.drop_of_length_le (by omega)]
  simp [sumB, sumI]
 | q + 1, i, a, b, k, h, a0, a1, b0, b1 => by
  have hn := hw.n1
  have hi : i < l.length := by omega
  have h2 := (hw.at_ i hi).2.f2b
  have h3 := (hw.at_ i hi).2.f3b
  have e1 : wrap64 (a + l[i].f2) = a + l[i].f2 := by unfold wrap64; omega
  have e2 : wrap64 (b + l[i].f3) = b + l[i].f3 := by unfold wrap64; omega
  rw [show k + (q + 1) + 3005 = ((k + q + 1) + 3004) + 1 by omega, selvedgeref18_Free.l0, rwhole_is l hw.small, Option.bind_some, (whole_iff l).2 hw, if_pos rfl, if_pos (by omega), if_pos (by omega), rdT_at l i hi, e1, e2, w64s i (by omega), show (k + q + 1) + 3004 = k + q + 3005 by omega, rfree_l0 l hw q (i + 1) _ _ k (by omega) (by omega) (by omega) (by omega) (by omega), List.drop_eq_getElem_cons hi]
  show some (a + l[i].f2 + sumB (l.drop (i + 1)), b + l[i].f3 + sumI (l.drop (i + 1))) = some (a + (l[i].f2 + sumB (l.drop (i + 1))), b + (l[i].f3 + sumI (l.drop (i + 1))))
  rw [Int.add_assoc, Int.add_assoc]
theorem rfree_is (l : List S42) (hw : WholeP l) (k : Nat) : selvedgeref18_Free.f (k + 3030) l = some (sumB l, sumI l) := by
 have hn := hw.n1
 have h := rfree_l0 l hw l.length 0 0 0 (k + (25 - l.length)) (by omega) (by omega) (by omega) (by omega) (by omega)
 rw [List.drop_zero, Int.zero_add, Int.zero_add, show k + (25 - l.length) + l.length + 3005 = k + 3030 by omega] at h
 exact h
/-! ### File -/
end Go.Proofs.Ytehjmmedghcndaa.PG
