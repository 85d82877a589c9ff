import Derived.Test.YtehjmmedghcndaaCY
/-! cyl, plain: Give on both sides is the same -/
namespace Go.Proofs.Ytehjmmedghcndaa.PG
open Go.RowKit Go.Proofs.YtehjmmedghcndaaW.PrintWords Go.Proofs.YtehjmmedghcndaaW.PrintLast Go.Proofs.YtehjmmedghcndaaW.PrintMore
/-- A group without a block. -/
def giveC (y : S42) (b : Int) : S42 := ⟨y.f0, y.f1, wrap64 (y.f1 - ((lessS y.f5 b).length : Int)), wrap64 (16 - (y.f6.length : Int)), y.f4, lessS y.f5 b, y.f6⟩
/-- A block is given back. -/
def giveS (l : List S42) (a b : Int) : List S42 × Int :=
 if mayS l a b 46 ≠ 0 then ([], mayS l a b 46) else if (rd_T42 l a).f5.contains b = true then (l.set a.toNat (giveC (rd_T42 l a) b), 0) else ([], 5)
theorem may0 {l : List S42} {a b : Int} (hm : mayS l a b 46 = 0) : WholeP l ∧ 0 ≤ a ∧ a < (l.length : Int) ∧ 0 ≤ b ∧ b < (rd_T42 l a).f1 := by
 have hw : wholeB l = true := by
  cases hw : wholeB l with
  | true => rfl
  | false => unfold mayS at hm; rw [hw, if_pos rfl] at hm; cases hm
 unfold mayS at hm
 rw [hw, if_neg (by decide)] at hm
 refine ⟨(whole_iff l).1 hw, ?_⟩
 by_cases hh : a < 0 ∨ (l.length : Int) ≤ a ∨ b < 0 ∨ manyS 46 (rd_T42 l a) ≤ b
 ·rw [if_pos hh] at hm; cases hm
 ·unfold manyS at hh
  rw [if_pos rfl] at hh
  omega
theorem cgive_is (l : List S42) (hl : SmallL l) (a b : Int) (k : Nat) : cyl_Give.f (k + 1001) l a b = some (giveS l a b) := by
 have hmay : cyl_may.f l a b 46 = some (mayS l a b 46) := by
  unfold cyl_may.f
  rw [if_pos ⟨hl, .inl rfl⟩]
 unfold cyl_Give.f giveS
 rw [hmay, Option.bind_some]
 by_cases hm : mayS l a b 46 = 0
 ·obtain ⟨hw, ha, hal, hb, hbl⟩ := may0 hm
  rw [if_pos hm, if_neg (show ¬ (mayS l a b 46 ≠ 0) from fun h => h hm), copied_is l hl k, Option.bind_some, if_pos ha, if_pos hal]
  obtain ⟨gn, rfl⟩ := Int.eq_ofNat_of_zero_le ha
  have hgl : gn < l.length := by omega
  have hry := (hw.at_ gn hgl).2
  rw [rdT_at l gn hgl]
  have hu := hry.ulen
  rw [remove_is _ _ _ hry.u (by omega) b k, Option.bind_some]
  by_cases hc : l[gn].f5.contains b = true
  ·rw [if_pos hc, if_pos hc, if_pos rfl]
   rfl
  ·rw [if_neg hc, if_neg hc, if_neg (show ¬ ((false : Bool) = true) by decide)]
 ·rw [if_neg hm, if_pos hm]
end Go.Proofs.Ytehjmmedghcndaa.PG
