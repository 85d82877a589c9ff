import Derived.Test.YtehjmmedghcndaaCV
import Derived.Test.YtehjmmedghcndaaCB
import Derived.Test.YtehjmmedghcndaaG4
/-! cyl, plain: few, and what is the same -/
namespace Go.Proofs.Ytehjmmedghcndaa.PG
open Go.RowKit Go.Proofs.YtehjmmedghcndaaW.PrintWords Go.Proofs.YtehjmmedghcndaaW.PrintLast Go.Proofs.YtehjmmedghcndaaW.PrintMore
theorem same_l0 (l : List Int) (hl : l.length ≤ 1000) : ∀ (q i : Nat) (k : Nat), i + q = l.length → selvedgeref18_same.l0 (k + q + 1) l l (i : Int) = some true
 | 0, i, k, h => by
  rw [show k + 0 + 1 = k + 1 by omega, selvedgeref18_same.l0, if_neg (by omega)]
 | q + 1, i, k, h => by
  rw [show k + (q + 1) + 1 = (k + q + 1) + 1 by omega, selvedgeref18_same.l0, if_pos (by omega), if_pos (by omega), if_pos (by omega), if_pos rfl, w64s i (by omega)]
  exact same_l0 l hl q (i + 1) k (by omega)
theorem same_is (l : List Int) (hl : l.length ≤ 1000) (k : Nat) : selvedgeref18_same.f (k + 1001) l l = some true := by
 have h := same_l0 l hl l.length 0 (k + (1000 - l.length)) (by omega)
 unfold selvedgeref18_same.f
 rw [if_pos rfl, show k + 1001 = k + (1000 - l.length) + l.length + 1 from by omega]
 exact h
theorem sameC_is (c : S42) (hc : SmallC c) (k : Nat) : selvedgeref18_Same.f (k + 1001) c.f0 c.f1 c.f2 c.f3 c.f4 c.f5 c.f6 c.f0 c.f1 c.f2 c.f3 c.f4 c.f5 c.f6 = some true := by
 unfold selvedgeref18_Same.f
 rw [if_pos rfl, if_pos rfl, if_pos rfl, if_pos rfl, if_pos rfl, same_is _ hc.1, Option.bind_some, if_pos rfl, same_is _ hc.2, Option.bind_some]
theorem sameAll_l0 (l : List S42) (hl : SmallL l) : ∀ (q i : Nat) (k : Nat), i + q = l.length → selvedgeref18_SameAll.l0 (k + q + 1002) l l (i : Int) = some true
 | 0, i, k, h => by
  rw [show k + 0 + 1002 = (k + 1001) + 1 by omega, selvedgeref18_SameAll.l0, if_neg (by omega)]
 | q + 1, i, k, h => by
  have hi : i < l.length := by omega
  have hl1 := hl.1
  rw [show k + (q + 1) + 1002 = (k + q + 1001 + 1) + 1 by omega, selvedgeref18_SameAll.l0, if_pos (by omega), if_pos (by omega), if_pos (by omega), rdT_at l i hi, show k + q + 1001 + 1 = (k + q + 1) + 1001 by omega, sameC_is _ (hl.2 _ (List.getElem_mem hi)), Option.bind_some, if_pos rfl, w64s i (by omega), show (k + q + 1) + 1001 = k + q + 1002 by omega]
  exact sameAll_l0 l hl q (i + 1) k (by omega)
theorem sameAll_is (l : List S42) (hl : SmallL l) (k : Nat) : selvedgeref18_SameAll.f (k + 2002) l l = some true := by
 have hl1 := hl.1
 have h := sameAll_l0 l hl l.length 0 (k + (1000 - l.length)) (by omega)
 unfold selvedgeref18_SameAll.f
 rw [if_pos rfl, show k + 2002 = k + (1000 - l.length) + l.length + 1002 from by omega]
 exact h
end Go.Proofs.Ytehjmmedghcndaa.PG
