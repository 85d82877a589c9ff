import Derived.Test.YtlmnagbfmkaglaaD0
/-! Plain laws of blocks that are used once, one behind the other. -/
namespace Go.Proofs.Ytlmnagbfmkaglaa.CC
open Go.RowKit Go.Proofs.Ytlmnagbfmkaglaa.PG Go.Proofs.YtlmnagbfmkaglaaW.PrintWords Go.Proofs.YtlmnagbfmkaglaaW.PrintLast Go.Proofs.YtlmnagbfmkaglaaW.PrintMore
def blk (f : Int) (j : Nat) : Int := (f + (j : Int)) % 96
theorem blk_ne (f : Int) (i j : Nat) (h1 : j < i) (h2 : i ≤ j + 8) : (blk f j == blk f i) = false := by
  unfold blk
  simp only [beq_eq_false_iff_ne, ne_eq]
  omega
theorem blk_range (f : Int) (j : Nat) : 0 ≤ blk f j ∧ blk f j < 96 := by unfold blk; omega
def rowA (f : Int) (i : Nat) : List S59 := (List.range i).map fun k => inF (blk f k)
def rowQ (m q : Nat) (B : Nat → Int) : List S59 := (List.range m).map fun k => ⟨B k, 0, false, decide (k < q) || decide (q = 0)⟩
def rowB (f : Int) (m t : Nat) : List S59 := rowQ m (t % m) (fun k => blk f (t - t % m + k + if k < t % m then m else 0))
theorem clk_rowQ (m q : Nat) (hm : 1 ≤ m ∧ m ≤ 8) (hq : q < m) (B : Nat → Int) (y : S59) :
    clk (2 * m + 1) (rowQ m q B) q y = ((B q, 0), (List.range m).map (fun k => if k = q then y else ⟨B k, 0, false, decide (k < q)⟩), (q + 1) % m) := by
  obtain rfl | rfl | rfl | rfl | rfl | rfl | rfl | rfl : m = 1 ∨ m = 2 ∨ m = 3 ∨ m = 4 ∨ m = 5 ∨ m = 6 ∨ m = 7 ∨ m = 8 := by omega
  · obtain rfl : q = 0 := by omega
    kernel_rfl
  · obtain rfl | rfl : q = 0 ∨ q = 1 := by omega
    all_goals kernel_rfl
  · obtain rfl | rfl | rfl : q = 0 ∨ q = 1 ∨ q = 2 := by omega
    all_goals kernel_rfl
  · obtain rfl | rfl | rfl | rfl : q = 0 ∨ q = 1 ∨ q = 2 ∨ q = 3 := by omega
    all_goals kernel_rfl
  · obtain rfl | rfl | rfl | rfl | rfl : q = 0 ∨ q = 1 ∨ q = 2 ∨ q = 3 ∨ q = 4 := by omega
    all_goals kernel_rfl
  · obtain rfl | rfl | rfl | rfl | rfl | rfl : q = 0 ∨ q = 1 ∨ q = 2 ∨ q = 3 ∨ q = 4 ∨ q = 5 := by omega
    all_goals kernel_rfl
  · obtain rfl | rfl | rfl | rfl | rfl | rfl | rfl : q = 0 ∨ q = 1 ∨ q = 2 ∨ q = 3 ∨ q = 4 ∨ q = 5 ∨ q = 6 := by omega
    all_goals kernel_rfl
  · obtain rfl | rfl | rfl | rfl | rfl | rfl | rfl | rfl : q = 0 ∨ q = 1 ∨ q = 2 ∨ q = 3 ∨ q = 4 ∨ q = 5 ∨ q = 6 ∨ q = 7 := by omega
    all_goals kernel_rfl
theorem rowQ_can (m q : Nat) (hm : 1 ≤ m) (B : Nat → Int) : (rowQ m q B).any canB = true := by
  rw [List.any_eq_true]
  exact ⟨_, List.mem_map.2 ⟨0, List.mem_range.2 (by omega), rfl⟩, rfl⟩
theorem rowQ_len (m q : Nat) (B : Nat → Int) : (rowQ m q B).length = m := by unfold rowQ; simp
theorem rowA_len (f : Int) (i : Nat) : (rowA f i).length = i := by unfold rowA; simp
def st (f : Int) (m i : Nat) : List S59 × Nat := if i ≤ m then (rowA f i, 0) else (rowB f m (i - m), (i - m) % m)
theorem rowA_B (f : Int) (m : Nat) : rowA f m = rowB f m 0 := by
  unfold rowA rowB rowQ inF
  refine List.map_congr_left fun k hk => ?_
  simp
theorem st_B (f : Int) (m t : Nat) : st f m (m + t) = (rowB f m t, t % m) := by
  unfold st
  by_cases h : t = 0
  · subst h
    rw [if_pos (by omega), show m + 0 = m from rfl, rowA_B, Nat.zero_mod]
  · rw [if_neg (by omega), show m + t - m = t by omega]
theorem rowB_step (f : Int) (m t : Nat) (hm : 1 ≤ m) : (List.range m).map (fun k => if k = t % m then inF (blk f (m + t)) else (⟨blk f (t - t % m + k + if k < t % m then m else 0), 0, false, decide (k < t % m)⟩ : S59)) = rowB f m (t + 1) := by
  unfold rowB rowQ
  refine List.map_congr_left fun k hk => ?_
  have hk' : k < m := List.mem_range.1 hk
  have hq := Nat.mod_lt t (show 0 < m by omega)
  have hle := Nat.mod_le t m
  have hdm := Nat.div_add_mod t m
  by_cases h1 : t % m + 1 = m
  · have e : (t + 1) % m = 0 := by
      have : t + 1 = m * (t / m + 1) := by rw [Nat.mul_add]; omega
      rw [this, Nat.mul_mod_right]
    rw [e]
    simp only [Nat.not_lt_zero, if_false, decide_false, Nat.sub_zero, Bool.false_or, decide_true, Nat.add_zero]
    by_cases h2 : k = t % m
    · rw [if_pos h2, inF]
      congr 2
      omega
    · rw [if_neg h2]
      have h3 : k < t % m := by omega
      simp only [if_pos h3, decide_eq_true h3]
      congr 2
      omega
  · have e : (t + 1) % m = t % m + 1 := by
      have h5 : t + 1 = t % m + 1 + m * (t / m) := by omega
      rw [h5, Nat.add_mul_mod_self_left, Nat.mod_eq_of_lt (by omega)]
    rw [e]
    have h6 : decide (t % m + 1 = 0) = false := by simp
    simp only [h6, Bool.or_false]
    by_cases h2 : k = t % m
    · rw [if_pos h2, inF]
      have h3 : k < t % m + 1 := by omega
      simp only [if_pos h3, decide_eq_true h3]
      congr 2
      omega
    · rw [if_neg h2]
      by_cases h3 : k < t % m
      · have h4 : k < t % m + 1 := by omega
        simp only [if_pos h3, if_pos h4, decide_eq_true h3, decide_eq_true h4]
        congr 2
        omega
      · have h4 : ¬ k < t % m + 1 := by omega
        simp only [if_neg h3, if_neg h4, decide_eq_false h3, decide_eq_false h4]
        congr 2
        omega
theorem step_A (f : Int) (m i : Nat) (hi : i < m) (hm : m ≤ 8) : useC (m : Int) (rowA f i) 0 (blk f i) = ((-1, 0), rowA f (i + 1), 0) := by
  have hb := blk_range f i
  have hix : ix (rowA f i) (blk f i) = -1 := ix_miss fun x hx => by
    obtain ⟨k, hk, rfl⟩ := List.mem_map.1 hx
    have := List.mem_range.1 hk
    exact blk_ne f i k this (by omega)
  unfold useC
  rw [if_neg (by omega), hix, if_neg (by omega), rowA_len, if_pos (by omega)]
  unfold rot rowA
  rw [List.range_succ, List.map_append]
  simp
theorem step_B (f : Int) (m t : Nat) (hm : 1 ≤ m ∧ m ≤ 8) : useC (m : Int) (rowB f m t) (t % m) (blk f (m + t)) = ((blk f t, 0), rowB f m (t + 1), (t + 1) % m) := by
  have hb := blk_range f (m + t)
  have hq := Nat.mod_lt t (show 0 < m by omega)
  have hle := Nat.mod_le t m
  have hix : ix (rowB f m t) (blk f (m + t)) = -1 := ix_miss fun x hx => by
    obtain ⟨k, hk, rfl⟩ := List.mem_map.1 hx
    have := List.mem_range.1 hk
    show (blk f (t - t % m + k + if k < t % m then m else 0) == blk f (m + t)) = false
    split
    · exact blk_ne f _ _ (by omega) (by omega)
    · exact blk_ne f _ _ (by omega) (by omega)
  unfold useC
  have hl : (rowB f m t).length = m := rowQ_len _ _ _
  rw [if_neg (by omega), hix, if_neg (by omega), hl, if_neg (by omega), show (rowB f m t).any canB = true from rowQ_can _ _ hm.1 _, if_neg (by decide)]
  unfold rowB at *
  rw [clk_rowQ m (t % m) hm hq]
  have e := rowB_step f m t hm.1
  unfold rowB at e
  rw [e]
  simp only [Nat.lt_irrefl, if_false]
  congr 1
  · rw [show t - t % m + t % m + 0 = t by omega]
  · rw [Nat.mod_add_mod]
theorem step_is (f : Int) (m i : Nat) (hm : 1 ≤ m ∧ m ≤ 8) : useC (m : Int) (st f m i).1 (st f m i).2 (blk f i) = ((if m ≤ i then blk f (i - m) else -1, 0), (st f m (i + 1)).1, (st f m (i + 1)).2) := by
  by_cases h : i < m
  · have e1 : st f m i = (rowA f i, 0) := by unfold st; rw [if_pos (by omega)]
    have e2 : st f m (i + 1) = (rowA f (i + 1), 0) := by unfold st; rw [if_pos (by omega)]
    rw [e1, e2, if_neg (by omega)]
    exact step_A f m i h hm.2
  · obtain ⟨t, rfl⟩ : ∃ t, i = m + t := ⟨i - m, by omega⟩
    rw [st_B, show m + t + 1 = m + (t + 1) by omega, st_B, if_pos (by omega), show m + t - m = t by omega]
    exact step_B f m t hm
theorem st_len (f : Int) (m i : Nat) : (st f m i).1.length ≤ m := by
  unfold st
  split
  · rw [rowA_len]; assumption
  · exact Nat.le_of_eq (rowQ_len _ _ _)
theorem st_hand (f : Int) (m i : Nat) (hm : 1 ≤ m) : (st f m i).2 < (st f m i).1.length ∨ (st f m i).2 = 0 := by
  unfold st
  split
  · exact .inr rfl
  · left
    show (i - m) % m < (rowB f m (i - m)).length
    rw [show (rowB f m (i - m)).length = m from rowQ_len _ _ _]
    exact Nat.mod_lt _ (by omega)
end Go.Proofs.Ytlmnagbfmkaglaa.CC
