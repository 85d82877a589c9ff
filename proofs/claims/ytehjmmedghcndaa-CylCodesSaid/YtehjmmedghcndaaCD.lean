import Derived.Test.YtehjmmedghcndaaCQ
/-! cyl.first. -/
namespace Go.Proofs.Ytehjmmedghcndaa.PG
open Go.RowKit Go.Proofs.YtehjmmedghcndaaW.PrintWords Go.Proofs.YtehjmmedghcndaaW.PrintLast Go.Proofs.YtehjmmedghcndaaW.PrintMore
attribute [local go_sem] Oper.semAt_some
/-- How long a list's head is its own numbers. -/
def mexF : List Int → Nat → Nat
 | [], i => i
 | x :: t, i => if x = (i : Int) then mexF t (i + 1) else i
theorem mexF_cons (x : Int) (t : List Int) (i : Nat) : mexF (x :: t) i = if x = (i : Int) then mexF t (i + 1) else i := rfl
theorem mexF_ge : ∀ (l : List Int) (i : Nat), i ≤ mexF l i ∧ mexF l i ≤ i + l.length
 | [], i => ⟨Nat.le_refl _, Nat.le_refl _⟩
 | x :: t, i => by
  rw [mexF_cons]
  have := mexF_ge t (i + 1)
  rw [List.length_cons]
  split <;> omega
def mex (l : List Int) : Nat := mexF l 0
theorem mex_le (l : List Int) : mex l ≤ l.length := by have := mexF_ge l 0; unfold mex; omega
/-- In numbers that rise from 0 on, the first that is missing. -/
theorem mexF_at : ∀ (l : List Int) (i : Nat) (b : Int), rise2 ((i : Int) - 1) l b = true → l.contains (mexF l i : Int) = false ∧ ixOf l (mexF l i : Int) = mexF l i - i ∧ (∀ j : Nat, i ≤ j → j < mexF l i → l.contains (j : Int) = true)
 | [], i, b, _ => ⟨rfl, by simp [mexF, ixOf], fun j h1 h2 => by simp only [mexF] at h2; omega⟩
 | x :: t, i, b, h => by
  rw [rise2_cons] at h
  by_cases hx : x ≤ (i : Int) - 1 ∨ x ≥ b
  ·rw [if_pos hx] at h; cases h
  ·rw [if_neg hx] at h
   rw [mexF_cons]
   by_cases e : x = (i : Int)
   ·rw [if_pos e]
    subst e
    rw [show (i : Int) = ((i + 1 : Nat) : Int) - 1 by omega] at h
    obtain ⟨h1, h2, h3⟩ := mexF_at t (i + 1) b h
    have hg := (mexF_ge t (i + 1)).1
    refine ⟨?_, ?_, fun j g1 g2 => ?_⟩
    ·rw [List.contains_cons, h1, Bool.or_false, beq_eq_false_iff_ne]; omega
    ·unfold ixOf at h2 ⊢
     rw [List.countP_cons, h2, if_pos (decide_eq_true (by omega))]; omega
    ·rw [List.contains_cons]
     by_cases g3 : j = i
     ·subst g3; simp
     ·rw [h3 j (by omega) g2, Bool.or_true]
   ·rw [if_neg e]
    have hall := (rise2_all h).1
    refine ⟨?_, ?_, fun j g1 g2 => by omega⟩
    ·rw [List.contains_cons]
     have : (i : Int) ≠ x := fun e2 => e e2.symm
     rw [beq_eq_false_iff_ne.2 this, Bool.false_or]
     cases hc : t.contains (i : Int) with
     | false => rfl
     | true => have := hall _ (List.contains_iff_mem.1 hc); omega
    ·unfold ixOf
     rw [Nat.sub_self, List.countP_eq_zero]
     intro y hy
     simp only [decide_eq_true_eq]
     rcases List.mem_cons.1 hy with rfl | hy
     ·omega
     ·have := hall y hy; omega
theorem mex_at {l : List Int} {b : Int} (h : rise2 (-1) l b = true) : l.contains (mex l : Int) = false ∧ ixOf l (mex l : Int) = mex l ∧ (∀ j : Nat, j < mex l → l.contains (j : Int) = true) := by
 obtain ⟨h1, h2, h3⟩ := mexF_at l 0 b h
 exact ⟨h1, h2, fun j hj => h3 j (Nat.zero_le _) hj⟩
/-- A group whose first free inode is used. -/
def firstC (c : S42) : S42 := ⟨c.f0, c.f1, c.f1 - (c.f5.length : Int), 16 - ((c.f6.length : Int) + 1), c.f4, c.f5, putAt c.f6 (mex c.f6) (mex c.f6 : Int)⟩
theorem own_is (c : S42) (h : SmallC c) : cyl_own.f c.f0 c.f1 c.f2 c.f3 c.f4 c.f5 c.f6 = some (c.f0, c.f1, c.f2, c.f3, c.f4, c.f5, c.f6) := by
 have h5 : slices_Clone_int_int.f c.f5 = some c.f5 := if_pos (by have := h.1; omega)
 have h6 : slices_Clone_int_int.f c.f6 = some c.f6 := if_pos (by have := h.2; omega)
 unfold cyl_own.f
 rw [h5, Option.bind_some, h6, Option.bind_some]
theorem copied_l0 (l : List S42) (hl : SmallL l) : ∀ (q i : Nat) (acc : List S42) (k : Nat), i + q = l.length → acc.length = l.length → acc.take i = l.take i → cyl_copied.l0 (k + q + 1) acc l (l.length : Int) (i : Int) = some l
 | 0, i, acc, k, h, ha, ht => by
  rw [cyl_copied.l0, if_neg (by omega)]
  rw [List.take_of_length_le (by omega), List.take_of_length_le (by omega)] at ht
  rw [ht]
 | q + 1, i, acc, k, h, ha, ht => by
  have hi : i < l.length := by omega
  have hn := hl.1
  rw [show k + (q + 1) + 1 = (k + q + 1) + 1 by omega, cyl_copied.l0, if_pos (by omega), if_pos (by omega), if_pos (by omega), rdT_at l i hi, own_is l[i] (hl.2 _ (List.getElem_mem hi)), Option.bind_some, if_pos (by omega), w64s i (by omega), Int.toNat_natCast]
  refine copied_l0 l hl q (i + 1) _ k (by omega) (by rw [List.length_set]; exact ha) ?_
  rw [List.take_succ_eq_append_getElem (by rw [List.length_set]; omega), List.take_set_of_le (Nat.le_refl _), ht]
  simp
  rw [List.take_succ_eq_append_getElem hi]
theorem copied_is (l : List S42) (hl : SmallL l) (k : Nat) : cyl_copied.f (k + 1001) l = some l := by
 have hn := hl.1
 unfold cyl_copied.f
 rw [if_pos (by omega), if_pos (by omega)]
 have := copied_l0 l hl l.length 0 (List.replicate ((l.length : Int) : Int).toNat z42) (k + (1000 - l.length)) (by omega) (by simp) rfl
 rw [show k + (1000 - l.length) + l.length + 1 = k + 1001 by omega] at this
 exact this
end Go.Proofs.Ytehjmmedghcndaa.PG
