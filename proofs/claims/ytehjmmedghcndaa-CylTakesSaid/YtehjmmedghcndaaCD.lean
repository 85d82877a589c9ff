import Derived.Test.YtehjmmedghcndaaCQ
/-! cyl.first. -/
namespace Go.Proofs.Ytehjmmedghcndaa.PG
open Go.RowKit Go.Proofs.YtehjmmedghcndaaW.PrintWords Go.Proofs.YtehjmmedghcndaaW.PrintLast Go.Proofs.YtehjmmedghcndaaW.PrintMore
attribute [local go_sem] Oper.semAt_some
theorem own_is (c : S42) (h : SmallC c) : cyl_own.f c.f0 c.f1 c.f2 c.f3 c.f4 c.f5 c.f6 = some (c.f0, c.f1, c.f2, c.f3, c.f4, c.f5, c.f6) := by
 have h5 : slices_Clone_int_int.f c.f5 = some c.f5 := if_pos (by have := h.1; omega)
 have h6 : slices_Clone_int_int.f c.f6 = some c.f6 := if_pos (by have := h.2; omega)
 unfold cyl_own.f
 rw [h5, Option.bind_some, h6, Option.bind_some]
theorem copied_l0 (l : List S42) (hl : SmallL l) : ∀ (q i : Nat) (acc : List S42) (k : Nat), i + q = l.length → acc.length = l.length → acc.take i = l.take i → cyl_copied.l0 (k + q + 1) acc l (l.length : Int) (i : Int) = some l
 | 0, i, acc, k, h, ha, ht => by
  rw [cyl_copied.l0, if_neg (by omega)]
  rw [List.take_of_length_le (by omega), List.take_of_length_le (by omega)] at ht
  rw [ht]
 | q + 1, i, acc, k, h, ha, ht => by
  have hi : i < l.length := by omega
  have hn := hl.1
  rw [show k + (q + 1) + 1 = (k + q + 1) + 1 by omega, cyl_copied.l0, if_pos (by omega), if_pos (by omega), if_pos (by omega), rdT_at l i hi, own_is l[i] (hl.2 _ (List.getElem_mem hi)), Option.bind_some, if_pos (by omega), w64s i (by omega), Int.toNat_natCast]
  refine copied_l0 l hl q (i + 1) _ k (by omega) (by rw [List.length_set]; exact ha) ?_
  rw [List.take_succ_eq_append_getElem (by rw [List.length_set]; omega), List.take_set_of_le (Nat.le_refl _), ht]
  simp
  rw [List.take_succ_eq_append_getElem hi]
theorem copied_is (l : List S42) (hl : SmallL l) (k : Nat) : cyl_copied.f (k + 1001) l = some l := by
 have hn := hl.1
 unfold cyl_copied.f
 rw [if_pos (by omega), if_pos (by omega)]
 have := copied_l0 l hl l.length 0 (List.replicate ((l.length : Int) : Int).toNat z42) (k + (1000 - l.length)) (by omega) (by simp) rfl
 rw [show k + (1000 - l.length) + l.length + 1 = k + 1001 by omega] at this
 exact this
end Go.Proofs.Ytehjmmedghcndaa.PG
