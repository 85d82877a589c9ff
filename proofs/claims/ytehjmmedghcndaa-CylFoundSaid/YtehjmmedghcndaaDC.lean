import Derived.Test.YtehjmmedghcndaaDA
import Derived.Test.YtehjmmedghcndaaGB
/-! cyl, plain: Free, Dir -/
namespace Go.Proofs.Ytehjmmedghcndaa.PG
open Go.RowKit Go.Proofs.YtehjmmedghcndaaW.PrintWords Go.Proofs.YtehjmmedghcndaaW.PrintLast Go.Proofs.YtehjmmedghcndaaW.PrintMore
/-- How many blocks, how many inodes are free. -/
def sumB : List S42 → Int
 | [] => 0
 | c :: t => c.f2 + sumB t
def sumI : List S42 → Int
 | [] => 0
 | c :: t => c.f3 + sumI t
theorem RightP.f2b {c : S42} (h : RightP c) : 0 ≤ c.f2 ∧ c.f2 ≤ 64 := by
 have h1 := rise2_len h.u
 have h2 := h.fb
 have h3 := h.b1
 have h4 := h.b0
 omega
theorem RightP.f3b {c : S42} (h : RightP c) : 0 ≤ c.f3 ∧ c.f3 ≤ 16 := by
 have h1 := h.nlen
 have h2 := h.fi
 omega
theorem sum_bd : ∀ (l : List S42), (∀ c ∈ l, RightP c) → 0 ≤ sumB l ∧ sumB l ≤ 64 * (l.length : Int) ∧ 0 ≤ sumI l ∧ sumI l ≤ 16 * (l.length : Int)
 | [], _ => by simp [sumB, sumI]
 | c :: t, h => by
  have h1 := sum_bd t (fun d hd => h d (List.mem_cons_of_mem _ hd))
  have h2 := (h c (by simp)).f2b
  have h3 := (h c (by simp)).f3b
  rw [List.length_cons]
  unfold sumB sumI
  omega
theorem WholeP.mem {l : List S42} (h : WholeP l) : ∀ c ∈ l, RightP c := fun c hc => by
 obtain ⟨j, hj, rfl⟩ := List.mem_iff_getElem.1 hc
 exact (h.at_ j hj).2
theorem free_l0 (l : List S42) (hw : WholeP l) : ∀ (q i : Nat) (a b : Int) (k : Nat), i + q = l.length → 0 ≤ a → a ≤ 64 * (i : Int) → 0 ≤ b → b ≤ 16 * (i : Int) → cyl_Free.l0 (k + q + 1) a b l (l.length : Int) (i : Int) = some (a + sumB (l.drop i), b + sumI (l.drop i))
 | 0, i, a, b, k, h, _, _, _, _ => by
  rw [cyl_Free.l0, if_neg (by omega), List.drop_of_length_le (by omega)]
  simp [sumB, sumI]
 | q + 1, i, a, b, k, h, a0, a1, b0, b1 => by
  have hn := hw.n1
  have hi : i < l.length := by omega
  have h2 := (hw.at_ i hi).2.f2b
  have h3 := (hw.at_ i hi).2.f3b
  have e1 : wrap64 (a + l[i].f2) = a + l[i].f2 := by unfold wrap64; omega
  have e2 : wrap64 (b + l[i].f3) = b + l[i].f3 := by unfold wrap64; omega
  rw [show k + (q + 1) + 1 = (k + q + 1) + 1 by omega, cyl_Free.l0, if_pos (by omega), if_pos (by omega), if_pos (by omega), rdT_at l i hi, e1, e2, w64s i (by omega), free_l0 l hw q (i + 1) _ _ k (by omega) (by omega) (by omega) (by omega) (by omega), List.drop_eq_getElem_cons hi]
  show some (a + l[i].f2 + sumB (l.drop (i + 1)), b + l[i].f3 + sumI (l.drop (i + 1))) = some (a + (l[i].f2 + sumB (l.drop (i + 1))), b + (l[i].f3 + sumI (l.drop (i + 1))))
  rw [Int.add_assoc, Int.add_assoc]
theorem free_is (l : List S42) (hw : WholeP l) (k : Nat) : cyl_Free.f (k + 2005) l = some (sumB l, sumI l) := by
 have hn := hw.n1
 have h := free_l0 l hw l.length 0 0 0 (k + (2004 - l.length)) (by omega) (by omega) (by omega) (by omega) (by omega)
 rw [List.drop_zero, Int.zero_add, Int.zero_add, show k + (2004 - l.length) + l.length + 1 = k + 2005 by omega] at h
 unfold cyl_Free.f
 rw [whole_is l hw.small k, Option.bind_some, (whole_iff l).2 hw, if_pos rfl]
 exact h
/-- The group of the greatest room, of those in which so many inodes are free. -/
def bestR (l : List S42) (T : Int) : Nat → Nat → Int → Int
 | 0, _, b => b
 | q + 1, i, b => bestR l T q (i + 1) (if T ≤ (rd_T42 l i).f3 ∧ (b < 0 ∨ (rd_T42 l i).f2 > (rd_T42 l b).f2) then (i : Int) else b)
def BestI (l : List S42) (T : Int) (i : Nat) (b : Int) : Prop := -1 ≤ b ∧ b < (i : Int) ∧ (b < 0 → ∀ j (h : j < l.length), j < i → l[j].f3 < T) ∧ (0 ≤ b → T ≤ (rd_T42 l b).f3 ∧ ∀ j (h : j < l.length), j < i → T ≤ l[j].f3 → l[j].f2 ≤ (rd_T42 l b).f2)
theorem bestR_inv (l : List S42) (T : Int) : ∀ (q i : Nat) (b : Int), i + q = l.length → BestI l T i b → BestI l T l.length (bestR l T q i b)
 | 0, i, b, h, hb => by
  obtain rfl : i = l.length := by omega
  exact hb
 | q + 1, i, b, h, ⟨h0, h1, h2, h3⟩ => by
  have hi : i < l.length := by omega
  unfold bestR
  refine bestR_inv l T q (i + 1) _ (by omega) ?_
  rw [rdT_at l i hi]
  by_cases c1 : T ≤ l[i].f3 ∧ (b < 0 ∨ l[i].f2 > (rd_T42 l b).f2)
  ·rw [if_pos c1]
   refine ⟨by omega, by omega, fun h => by omega, fun _ => ?_⟩
   rw [rdT_at l i hi]
   refine ⟨c1.1, fun j hj hji ht => ?_⟩
   by_cases e : j = i
   ·subst e; exact Int.le_refl _
   ·rcases c1.2 with g | g
    ·have := h2 g j hj (by omega); omega
    ·by_cases gb : b < 0
     ·have := h2 gb j hj (by omega); omega
     ·have := (h3 (by omega)).2 j hj (by omega) ht; omega
  ·rw [if_neg c1]
   refine ⟨h0, by omega, fun g j hj hji => ?_, fun g => ⟨(h3 g).1, fun j hj hji ht => ?_⟩⟩
   ·by_cases e : j = i
    ·subst e; omega
    ·exact h2 g j hj (by omega)
   ·by_cases e : j = i
    ·subst e; omega
    ·exact (h3 g).2 j hj (by omega) ht
/-- How many inodes are free in a group at least, where a directory goes. -/
def leastS (l : List S42) : Int := if sumI l / (l.length : Int) < 1 then 1 else sumI l / (l.length : Int)
/-- A directory's inode is taken. -/
def dirB (l : List S42) : Int := bestR l (leastS l) l.length 0 (-1)
def dirS (l : List S42) : List S42 × Int × Int × Int := if dirB l < 0 then ([], 0, 0, 4) else (l.set (dirB l).toNat (firstC (rd_T42 l (dirB l))), dirB l, (mex (rd_T42 l (dirB l)).f6 : Int), 0)
theorem dirB_inv (l : List S42) : BestI l (leastS l) l.length (dirB l) := bestR_inv l _ l.length 0 (-1) (by omega) ⟨by omega, by omega, fun _ j _ h => by omega, fun h => by omega⟩
theorem dir_l0 (l : List S42) (hw : WholeP l) (T : Int) (hT : 1 ≤ T) : ∀ (q i : Nat) (b : Int) (k : Nat), i + q = l.length → BestI l T i b →
  cyl_Dir.l0 (k + q + 1) l T b l (l.length : Int) (i : Int) = some (if bestR l T q i b < 0 then ([], 0, 0, 4) else (l.set (bestR l T q i b).toNat (firstC (rd_T42 l (bestR l T q i b))), bestR l T q i b, (mex (rd_T42 l (bestR l T q i b)).f6 : Int), 0))
 | 0, i, b, k, h, hb => by
  obtain rfl : i = l.length := by omega
  rw [cyl_Dir.l0, if_neg (by omega)]
  unfold bestR
  by_cases h0 : b < 0
  ·rw [if_pos h0, if_pos h0]
  ·rw [if_neg h0, if_neg h0]
   have hq := (hb.2.2.2 (by omega)).1
   have hf : cyl_first.f l b = some (firstS l b) := if_pos ⟨(whole_iff l).2 hw, by omega, hb.2.1⟩
   have hs : firstS l b = (l.set b.toNat (firstC (rd_T42 l b)), b, (mex (rd_T42 l b).f6 : Int), true) := if_neg (by omega)
   rw [hf, hs, Option.bind_some]
 | q + 1, i, b, k, h, hb => by
  have hn := hw.n1
  have hi : i < l.length := by omega
  have step := bestR_inv l T 1 i b
  have ih := dir_l0 l hw T hT q (i + 1) (if T ≤ (rd_T42 l i).f3 ∧ (b < 0 ∨ (rd_T42 l i).f2 > (rd_T42 l b).f2) then (i : Int) else b) k (by omega)
  have hb1 : BestI l T (i + 1) (if T ≤ (rd_T42 l i).f3 ∧ (b < 0 ∨ (rd_T42 l i).f2 > (rd_T42 l b).f2) then (i : Int) else b) := by
   obtain ⟨h0, h1, h2, h3⟩ := hb
   rw [rdT_at l i hi]
   by_cases c1 : T ≤ l[i].f3 ∧ (b < 0 ∨ l[i].f2 > (rd_T42 l b).f2)
   ·rw [if_pos c1]
    refine ⟨by omega, by omega, fun h => by omega, fun _ => ?_⟩
    rw [rdT_at l i hi]
    refine ⟨c1.1, fun j hj hji ht => ?_⟩
    by_cases e : j = i
    ·subst e; exact Int.le_refl _
    ·rcases c1.2 with g | g
     ·have := h2 g j hj (by omega); omega
     ·by_cases gb : b < 0
      ·have := h2 gb j hj (by omega); omega
      ·have := (h3 (by omega)).2 j hj (by omega) ht; omega
   ·rw [if_neg c1]
    refine ⟨h0, by omega, fun g j hj hji => ?_, fun g => ⟨(h3 g).1, fun j hj hji ht => ?_⟩⟩
    ·by_cases e : j = i
     ·subst e; omega
     ·exact h2 g j hj (by omega)
    ·by_cases e : j = i
     ·subst e; omega
     ·exact (h3 g).2 j hj (by omega) ht
  specialize ih hb1
  unfold bestR
  obtain ⟨B, hB⟩ : ∃ B, (if T ≤ (rd_T42 l i).f3 ∧ (b < 0 ∨ (rd_T42 l i).f2 > (rd_T42 l b).f2) then (i : Int) else b) = B := ⟨_, rfl⟩
  rw [hB] at ih ⊢
  rw [← ih]
  rw [show k + (q + 1) + 1 = (k + q + 1) + 1 by omega, cyl_Dir.l0, if_pos (by omega), if_pos (by omega), if_pos (by omega), w64s i (by omega)]
  by_cases c1 : (rd_T42 l i).f3 ≥ T
  ·rw [if_pos c1]
   by_cases c2 : b < 0
   ·rw [if_pos ⟨c1, .inl c2⟩] at hB
    rw [if_pos c2, hB]
   ·have hbl := hb.2.1
    rw [if_neg c2, if_pos (by omega), if_pos (by omega)]
    by_cases c3 : (rd_T42 l i).f2 > (rd_T42 l b).f2
    ·rw [if_pos ⟨c1, .inr c3⟩] at hB
     rw [if_pos c3, hB]
    ·rw [if_neg (fun h => h.2.elim c2 c3)] at hB
     rw [if_neg c3, hB]
  ·rw [if_neg (fun h => c1 h.1)] at hB
   rw [if_neg c1, hB]
theorem least_is (l : List S42) (hw : WholeP l) : mx (wrap64 (Int.tdiv (sumI l) (l.length : Int))) 1 = leastS l ∧ 0 ≤ sumI l ∧ wrap64 (Int.tdiv (sumI l) (l.length : Int)) = sumI l / (l.length : Int) := by
 obtain ⟨_, _, h0, h1⟩ := sum_bd l hw.mem
 have n0 := hw.n0
 have n1 := hw.n1
 have hd : Int.tdiv (sumI l) (l.length : Int) = sumI l / (l.length : Int) := Int.tdiv_eq_ediv_of_nonneg h0
 have hge : 0 ≤ sumI l / (l.length : Int) := Int.ediv_nonneg h0 (by omega)
 have hle : sumI l / (l.length : Int) ≤ sumI l := Int.ediv_le_self _ h0
 have e : wrap64 (sumI l / (l.length : Int)) = sumI l / (l.length : Int) := by unfold wrap64; omega
 refine ⟨?_, h0, by rw [hd, e]⟩
 rw [hd, e]
 unfold leastS mx
 by_cases h : sumI l / (l.length : Int) < 1
 ·simp only [if_pos h] <;> omega
 ·simp only [if_neg h] <;> omega
theorem dir_is (l : List S42) (hw : WholeP l) (k : Nat) : cyl_Dir.f (k + 2005) l = some (dirS l) := by
 have n0 := hw.n0
 have n1 := hw.n1
 obtain ⟨hl, _, _⟩ := least_is l hw
 have hT : 1 ≤ leastS l := by unfold leastS; split <;> omega
 unfold cyl_Dir.f
 rw [whole_is l hw.small k, Option.bind_some, (whole_iff l).2 hw, if_pos rfl, free_is l hw k, Option.bind_some, if_neg (by omega), hl]
 have h := dir_l0 l hw (leastS l) hT l.length 0 (-1) (k + (2004 - l.length)) (by omega) ⟨by omega, by omega, fun _ j _ h => by omega, fun h => by omega⟩
 rw [show k + (2004 - l.length) + l.length + 1 = k + 2005 by omega] at h
 exact h
/-- Where nothing is free in any of some groups, nothing is free. -/
theorem sumI_lt (T : Int) : ∀ (l : List S42), (∀ c ∈ l, c.f3 < T) → sumI l ≤ (T - 1) * (l.length : Int)
 | [], _ => by simp [sumI]
 | c :: t, h => by
  have h1 := sumI_lt T t (fun d hd => h d (List.mem_cons_of_mem _ hd))
  have h2 := h c (by simp)
  rw [List.length_cons]
  unfold sumI
  rw [show (((t.length + 1 : Nat) : Int)) = (t.length : Int) + 1 by omega, Int.mul_add, Int.mul_one]
  omega
theorem sumI_pos : ∀ (l : List S42), (∀ c ∈ l, RightP c) → ∀ c ∈ l, c.f3 ≤ sumI l
 | [], _, c, h => by cases h
 | d :: t, h, c, hc => by
  have h1 := sum_bd t (fun d hd => h d (List.mem_cons_of_mem _ hd))
  have h2 := (h d (by simp)).f3b
  unfold sumI
  rcases List.mem_cons.1 hc with rfl | hc
  ·omega
  ·have := sumI_pos t (fun d hd => h d (List.mem_cons_of_mem _ hd)) c hc
   omega
theorem dirB_full {l : List S42} (hw : WholeP l) : sumI l = 0 ↔ dirB l < 0 := by
 obtain ⟨h0, h1, h2, h3⟩ := dirB_inv l
 have n0 := hw.n0
 obtain ⟨_, hge, _⟩ := least_is l hw
 constructor
 ·intro hz
  by_cases h : dirB l < 0
  ·exact h
  ·obtain ⟨g, hg⟩ := Int.eq_ofNat_of_zero_le (show 0 ≤ dirB l by omega)
   have hgl : g < l.length := by omega
   have h4 := (h3 (by omega)).1
   rw [hg, rdT_at l g hgl] at h4
   have h5 := sumI_pos l hw.mem l[g] (List.getElem_mem hgl)
   have : 1 ≤ leastS l := by unfold leastS; split <;> omega
   omega
 ·intro h
  have h4 := sumI_lt (leastS l) l (fun c hc => by
   obtain ⟨j, hj, rfl⟩ := List.mem_iff_getElem.1 hc
   exact h2 h j hj hj)
  by_cases hs : sumI l / (l.length : Int) < 1
  ·have e : leastS l = 1 := if_pos hs
   rw [e] at h4
   omega
  ·have e : leastS l = sumI l / (l.length : Int) := if_neg hs
   rw [e, Int.sub_mul, Int.one_mul] at h4
   have := Int.mul_ediv_add_emod (sumI l) (l.length : Int)
   have := Int.emod_nonneg (sumI l) (show (l.length : Int) ≠ 0 by omega)
   have := Int.emod_lt_of_pos (sumI l) (show 0 < (l.length : Int) by omega)
   rw [Int.mul_comm] at h4
   omega
end Go.Proofs.Ytehjmmedghcndaa.PG
