import Derived.Test.YtehjmmedghcndaaDA
import Derived.Test.YtehjmmedghcndaaGA
/-! cyl, plain: made: nothing, or groups that are whole -/
namespace Go.Proofs.Ytehjmmedghcndaa.PG
open Go.RowKit Go.Proofs.YtehjmmedghcndaaW.PrintWords Go.Proofs.YtehjmmedghcndaaW.PrintLast Go.Proofs.YtehjmmedghcndaaW.PrintMore
theorem new_right {i n : Int} (h0 : 0 ≤ i) (h1 : i < 16) (h2 : 1 ≤ n) (h3 : n ≤ 64) : RightP ⟨i, n, n, 16, 0, [], []⟩ := ⟨h0, h1, h2, h3, Int.le_refl _, (by show (0 : Int) < n; omega), rfl, rfl, by show n = n - ((0 : Nat) : Int); omega, rfl⟩
theorem rnew_is (i n : Int) (h0 : 0 ≤ i) (h1 : i < 16) (h2 : 1 ≤ n) (h3 : n ≤ 64) (k : Nat) : selvedgeref18_New.f (k + 1001) i n = some (i, n, n, 16, 0, [], [], 0) := by
 have h := rright_is ⟨i, n, n, 16, 0, [], []⟩ ⟨Nat.zero_le 1000, Nat.zero_le 1000⟩ k
 rw [(right_iff _).2 (new_right h0 h1 h2 h3)] at h
 unfold selvedgeref18_New.f
 rw [show selvedgeref18_Right.f (k + 1001) i n n 16 0 [] [] = some true from h, Option.bind_some, if_pos rfl]
/-- Numbers of one byte. -/
def Bytes8 (l : List Int) : Prop := ∀ x ∈ l, 0 ≤ x ∧ x ≤ 255
theorem rd_byte {l : List Int} (h : Bytes8 l) (i : Int) : 0 ≤ rd l i ∧ rd l i ≤ 255 := by
 unfold rd
 rw [List.getD_eq_getElem?_getD]
 by_cases hi : i.toNat < l.length
 ·rw [List.getElem?_eq_getElem hi]
  exact h _ (List.getElem_mem hi)
 ·rw [List.getElem?_eq_none (by omega)]
  exact ⟨by decide, by decide⟩
theorem w64b {x : Int} (h : 0 ≤ x ∧ x ≤ 255) : wrap64 x = x := by unfold wrap64; omega
theorem made_l1 (x1 : List Int) (hx : Bytes8 x1) : ∀ (q i : Nat) (x5 : List S42) (k : Nat), i + q = 60 → (x5 = [] ∨ WholeP x5) → ∃ L, selvedgelaw18_made.l1 (k + 2 * q + 2) x1 x5 (i : Int) = some L ∧ (L = [] ∨ WholeP L)
 | q, i, x5, k, hq, hw => by
  have stop : ∀ k', selvedgelaw18_made.j3 (k' + 1) x1 x5 (i : Int) false = some x5 := fun k' => by rw [selvedgelaw18_made.j3, if_neg (by decide)]
  rw [show k + 2 * q + 2 = (k + 2 * q + 1) + 1 by omega, selvedgelaw18_made.l1]
  by_cases h1 : (i : Int) < (x1.length : Int)
  ·rw [if_pos h1]
   by_cases h2 : (i : Int) < 60
   ·rw [if_pos h2]
    by_cases h3 : (x5.length : Int) > 0
    ·obtain ⟨q, rfl⟩ : ∃ q', q = q' + 1 := ⟨q - 1, by omega⟩
     have hwp : WholeP x5 := hw.resolve_left (fun e => by subst e; simp at h3)
     have hb := rd_byte hx (i : Int)
     have hg0 : 0 ≤ rd x1 (i : Int) % (x5.length : Int) := Int.emod_nonneg _ (by omega)
     have hg1 : rd x1 (i : Int) % (x5.length : Int) < (x5.length : Int) := Int.emod_lt_of_pos _ h3
     obtain ⟨g, hg⟩ := Int.eq_ofNat_of_zero_le hg0
     have hgl : g < x5.length := by omega
     have hb0 := (hwp.at_ g hgl).2.b0
     rw [decide_eq_true h3, selvedgelaw18_made.j3, if_pos rfl, if_pos (by omega), if_pos h1, if_neg (by omega), w64b hb, Int.tmod_eq_emod_of_nonneg hb.1, if_pos hg0, if_pos hg1, hg, rdT_at x5 g hgl, if_neg (by omega)]
     have ht : ∀ b, selvedgeref18_Take.f x5 (g : Int) b = some (takeS x5 (g : Int) b) := fun b => if_pos hwp.small
     rw [ht, Option.bind_some, w64s i (by omega), show k + 2 * (q + 1) = k + 2 * q + 2 by omega]
     by_cases h4 : (takeS x5 (g : Int) (Int.tmod (rd x1 (i : Int)) x5[g].f1)).2.2.2 = 0
     ·rw [if_pos h4]
      exact made_l1 x1 hx q (i + 1) _ k (by omega) (.inr (take_whole h4))
     ·rw [if_neg h4]
      exact made_l1 x1 hx q (i + 1) _ k (by omega) hw
    ·rw [decide_eq_false h3, stop]
     exact ⟨_, rfl, hw⟩
   ·rw [if_neg h2, stop]
    exact ⟨_, rfl, hw⟩
  ·rw [if_neg h1, stop]
   exact ⟨_, rfl, hw⟩
theorem made_l0 (x0 x1 : List Int) (h0 : Bytes8 x0) (hx : Bytes8 x1) : ∀ (q i : Nat) (x5 : List S42) (k : Nat), i + q = 16 → x5.length = i → (∀ j (hj : j < x5.length), x5[j].f0 = (j : Int) ∧ RightP x5[j]) →
  ∃ L, selvedgelaw18_made.l0 (k + q + 1200) x0 x1 x5 (i : Int) = some L ∧ (L = [] ∨ WholeP L)
 | q, i, x5, k, hq, hl, ha => by
  have hw : x5 = [] ∨ WholeP x5 := by
   by_cases e : x5 = []
   ·exact .inl e
   ·have := List.length_pos_iff.2 e
    exact .inr ⟨by omega, by omega, ha⟩
  have stop : ∃ L, selvedgelaw18_made.j1 (k + q + 1199) x1 x5 = some L ∧ (L = [] ∨ WholeP L) := by
   rw [show k + q + 1199 = (k + q + 1076 + 2 * 60 + 2) + 1 by omega, selvedgelaw18_made.j1]
   exact made_l1 x1 hx 60 0 x5 _ rfl hw
  rw [show k + q + 1200 = (k + q + 1199) + 1 by omega, selvedgelaw18_made.l0]
  by_cases h1 : (i : Int) < (x0.length : Int)
  ·rw [if_pos h1]
   by_cases h2 : (i : Int) < 16
   ·obtain ⟨q, rfl⟩ : ∃ q', q = q' + 1 := ⟨q - 1, by omega⟩
    have hb := rd_byte h0 (i : Int)
    have hn : wrap64 (Int.tmod (rd x0 (i : Int)) 64 + 1) = rd x0 (i : Int) % 64 + 1 := by
     rw [Int.tmod_eq_emod_of_nonneg hb.1]
     unfold wrap64
     omega
    rw [if_pos h2, if_pos (by omega), w64b hb, hn, show k + (q + 1) + 1199 = (k + q + 199) + 1001 by omega, rnew_is _ _ (by omega) h2 (by omega) (by omega), Option.bind_some, if_pos (by omega), w64s i (by omega), show (k + q + 199) + 1001 = k + q + 1200 by omega]
    refine made_l0 x0 x1 h0 hx q (i + 1) _ k (by omega) (by rw [List.length_append, List.length_singleton]; omega) (fun j hj => ?_)
    rw [List.length_append, List.length_singleton] at hj
    by_cases e : j < x5.length
    ·rw [List.getElem_append_left e]
     exact ha j e
    ·obtain rfl : j = x5.length := by omega
     rw [List.getElem_concat_length (by omega)]
     subst hl
     exact ⟨rfl, new_right (i := (x5.length : Int)) (n := rd x0 (x5.length : Int) % 64 + 1) (by omega) h2 (by omega) (by omega)⟩
   ·rw [if_neg h2]
    exact stop
  ·rw [if_neg h1]
   exact stop
theorem made_is (x0 x1 : List Int) (h0 : Bytes8 x0) (hx : Bytes8 x1) (k : Nat) : ∃ L, selvedgelaw18_made.f (k + 1216) x0 x1 = some L ∧ (L = [] ∨ WholeP L) := by
 have := made_l0 x0 x1 h0 hx 16 0 [] k rfl rfl (fun j hj => by cases hj)
 unfold selvedgelaw18_made.f
 exact this
end Go.Proofs.Ytehjmmedghcndaa.PG
