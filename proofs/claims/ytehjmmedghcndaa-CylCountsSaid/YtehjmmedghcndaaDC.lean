import Derived.Test.YtehjmmedghcndaaDA
import Derived.Test.YtehjmmedghcndaaGB
/-! cyl, plain: Free, Dir -/
namespace Go.Proofs.Ytehjmmedghcndaa.PG
open Go.RowKit Go.Proofs.YtehjmmedghcndaaW.PrintWords Go.Proofs.YtehjmmedghcndaaW.PrintLast Go.Proofs.YtehjmmedghcndaaW.PrintMore
/-- How many blocks, how many inodes are free. -/
def sumB : List S42 → Int
 | [] => 0
 | c :: t => c.f2 + sumB t
def sumI : List S42 → Int
 | [] => 0
 | c :: t => c.f3 + sumI t
theorem RightP.f2b {c : S42} (h : RightP c) : 0 ≤ c.f2 ∧ c.f2 ≤ 64 := by
 have h1 := rise2_len h.u
 have h2 := h.fb
 have h3 := h.b1
 have h4 := h.b0
 omega
theorem RightP.f3b {c : S42} (h : RightP c) : 0 ≤ c.f3 ∧ c.f3 ≤ 16 := by
 have h1 := h.nlen
 have h2 := h.fi
 omega
theorem free_l0 (l : List S42) (hw : WholeP l) : ∀ (q i : Nat) (a b : Int) (k : Nat), i + q = l.length → 0 ≤ a → a ≤ 64 * (i : Int) → 0 ≤ b → b ≤ 16 * (i : Int) → cyl_Free.l0 (k + q + 1) a b l (l.length : Int) (i : Int) = some (a + sumB (l.drop i), b + sumI (l.drop i))
 | 0, i, a, b, k, h, _, _, _, _ => by
  rw [cyl_Free.l0, if_neg (by omega), List.drop_of_length_le (by omega)]
  simp [sumB, sumI]
 | q + 1, i, a, b, k, h, a0, a1, b0, b1 => by
  have hn := hw.n1
  have hi : i < l.length := by omega
  have h2 := (hw.at_ i hi).2.f2b
  have h3 := (hw.at_ i hi).2.f3b
  have e1 : wrap64 (a + l[i].f2) = a + l[i].f2 := by unfold wrap64; omega
  have e2 : wrap64 (b + l[i].f3) = b + l[i].f3 := by unfold wrap64; omega
  rw [show k + (q + 1) + 1 = (k + q + 1) + 1 by omega, cyl_Free.l0, if_pos (by omega), if_pos (by omega), if_pos (by omega), rdT_at l i hi, e1, e2, w64s i (by omega), free_l0 l hw q (i + 1) _ _ k (by omega) (by omega) (by omega) (by omega) (by omega), List.drop_eq_getElem_cons hi]
  show some (a + l[i].f2 + sumB (l.drop (i + 1)), b + l[i].f3 + sumI (l.drop (i + 1))) = some (a + (l[i].f2 + sumB (l.drop (i + 1))), b + (l[i].f3 + sumI (l.drop (i + 1))))
  rw [Int.add_assoc, Int.add_assoc]
theorem free_is (l : List S42) (hw : WholeP l) (k : Nat) : cyl_Free.f (k + 2005) l = some (sumB l, sumI l) := by
 have hn := hw.n1
 have h := free_l0 l hw l.length 0 0 0 (k + (2004 - l.length)) (by omega) (by omega) (by omega) (by omega) (by omega)
 rw [List.drop_zero, Int.zero_add, Int.zero_add, show k + (2004 - l.length) + l.length + 1 = k + 2005 by omega] at h
 unfold cyl_Free.f
 rw [whole_is l hw.small k, Option.bind_some, (whole_iff l).2 hw, if_pos rfl]
 exact h
theorem free_no (l : List S42) (hl : SmallL l) (hw : wholeB l = false) (k : Nat) : cyl_Free.f (k + 2005) l = some (0, 0) := by
 unfold cyl_Free.f
 rw [whole_is l hl k, Option.bind_some, hw, if_neg (by decide)]
end Go.Proofs.Ytehjmmedghcndaa.PG
