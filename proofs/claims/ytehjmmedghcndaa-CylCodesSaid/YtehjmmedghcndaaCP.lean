import Derived.Test.YtehjmmedghcndaaCA
import Derived.Test.YtehjmmedghcndaaG2
import Derived.Test.YtehjmmedghcndaaG3
/-! Plain words of the groups: what is right, what is whole; the printed functions answer so. -/
namespace Go.Proofs.Ytehjmmedghcndaa.PG
open Go.RowKit Go.Proofs.YtehjmmedghcndaaW.PrintWords Go.Proofs.YtehjmmedghcndaaW.PrintLast Go.Proofs.YtehjmmedghcndaaW.PrintMore
/-- Numbers rise, behind one, below another one. -/
def rise2 : Int → List Int → Int → Bool
 | _, [], _ => true
 | a, x :: t, b => if x ≤ a ∨ x ≥ b then false else rise2 x t b
theorem rise2_cons (a x : Int) (t : List Int) (b : Int) : rise2 a (x :: t) b = if x ≤ a ∨ x ≥ b then false else rise2 x t b := rfl
theorem rise2_all : ∀ {l : List Int} {a b : Int}, rise2 a l b = true → (∀ x ∈ l, a < x ∧ x < b) ∧ upB l = true
 | [], _, _, _ => ⟨fun x h => by simp at h, rfl⟩
 | x :: t, a, b, h => by
  rw [rise2_cons] at h
  by_cases hx : x ≤ a ∨ x ≥ b
  ·rw [if_pos hx] at h; cases h
  ·rw [if_neg hx] at h
   obtain ⟨h1, h2⟩ := rise2_all h
   refine ⟨fun y hy => ?_, ?_⟩
   ·rcases List.mem_cons.1 hy with rfl | hy
    ·omega
    ·have := h1 y hy; omega
   ·unfold upB
    rw [Bool.and_eq_true, List.all_eq_true]
    exact ⟨fun y hy => decide_eq_true (h1 y hy).1, h2⟩
theorem rise2_len : ∀ {l : List Int} {a b : Int}, rise2 a l b = true → l.length ≤ (b - a - 1).toNat
 | [], _, _, _ => Nat.zero_le _
 | x :: t, a, b, h => by
  rw [rise2_cons] at h
  by_cases hx : x ≤ a ∨ x ≥ b
  ·rw [if_pos hx] at h; cases h
  ·rw [if_neg hx] at h
   have := rise2_len h
   rw [List.length_cons]
   omega
/-- A group is right. -/
def rightB (c : S42) : Bool := decide (0 ≤ c.f0) && decide (c.f0 < 16) && decide (1 ≤ c.f1) && decide (c.f1 ≤ 64) && decide (0 ≤ c.f4) && decide (c.f4 < c.f1) && rise2 (-1) c.f5 c.f1 && rise2 (-1) c.f6 16 && decide (c.f2 = c.f1 - (c.f5.length : Int)) && decide (c.f3 = 16 - (c.f6.length : Int))
structure RightP (c : S42) : Prop where
 i0 : 0 ≤ c.f0
 i1 : c.f0 < 16
 b0 : 1 ≤ c.f1
 b1 : c.f1 ≤ 64
 r0 : 0 ≤ c.f4
 r1 : c.f4 < c.f1
 u : rise2 (-1) c.f5 c.f1 = true
 n : rise2 (-1) c.f6 16 = true
 fb : c.f2 = c.f1 - (c.f5.length : Int)
 fi : c.f3 = 16 - (c.f6.length : Int)
theorem right_iff (c : S42) : rightB c = true ↔ RightP c := by
 unfold rightB
 simp only [Bool.and_eq_true, decide_eq_true_eq]
 constructor
 ·rintro ⟨⟨⟨⟨⟨⟨⟨⟨⟨h1, h2⟩, h3⟩, h4⟩, h5⟩, h6⟩, h7⟩, h8⟩, h9⟩, h10⟩
  exact ⟨h1, h2, h3, h4, h5, h6, h7, h8, h9, h10⟩
 ·rintro ⟨h1, h2, h3, h4, h5, h6, h7, h8, h9, h10⟩
  exact ⟨⟨⟨⟨⟨⟨⟨⟨⟨h1, h2⟩, h3⟩, h4⟩, h5⟩, h6⟩, h7⟩, h8⟩, h9⟩, h10⟩
theorem RightP.ulen {c : S42} (h : RightP c) : c.f5.length ≤ 64 := by have := rise2_len h.u; have := h.b1; omega
theorem RightP.nlen {c : S42} (h : RightP c) : c.f6.length ≤ 16 := by have := rise2_len h.n; omega
/-- Groups are right, from a number on. -/
def wholeF : Nat → List S42 → Bool
 | _, [] => true
 | i, c :: t => decide (c.f0 = (i : Int)) && rightB c && wholeF (i + 1) t
def wholeB (l : List S42) : Bool := decide (1 ≤ l.length) && decide (l.length ≤ 16) && wholeF 0 l
theorem wholeF_iff : ∀ (l : List S42) (i : Nat), wholeF i l = true ↔ ∀ j (h : j < l.length), l[j].f0 = ((i + j : Nat) : Int) ∧ RightP l[j]
 | [], i => by simp [wholeF]
 | c :: t, i => by
  unfold wholeF
  rw [Bool.and_eq_true, Bool.and_eq_true, decide_eq_true_eq, right_iff, wholeF_iff t (i + 1)]
  constructor
  ·rintro ⟨⟨h1, h2⟩, h3⟩ j hj
   cases j with
   | zero => exact ⟨by simpa using h1, h2⟩
   | succ j =>
    have := h3 j (by simpa using hj)
    exact ⟨by simpa [Nat.add_assoc, Nat.add_comm 1 j] using this.1, by simpa using this.2⟩
  ·intro h
   refine ⟨⟨(h 0 (Nat.succ_pos _)).1, (h 0 (Nat.succ_pos _)).2⟩, fun j hj => ?_⟩
   have := h (j + 1) (by simpa using hj)
   exact ⟨by simpa [Nat.add_assoc, Nat.add_comm 1 j] using this.1, by simpa using this.2⟩
/-- Groups that are right together. -/
structure WholeP (l : List S42) : Prop where
 n0 : 1 ≤ l.length
 n1 : l.length ≤ 16
 at_ : ∀ j (h : j < l.length), l[j].f0 = (j : Int) ∧ RightP l[j]
theorem whole_iff (l : List S42) : wholeB l = true ↔ WholeP l := by
 unfold wholeB
 rw [Bool.and_eq_true, Bool.and_eq_true, decide_eq_true_eq, decide_eq_true_eq, wholeF_iff]
 constructor
 ·rintro ⟨⟨h1, h2⟩, h3⟩
  exact ⟨h1, h2, fun j hj => by simpa using h3 j hj⟩
 ·rintro ⟨h1, h2, h3⟩
  exact ⟨⟨h1, h2⟩, fun j hj => by simpa using h3 j hj⟩
/-- Groups that a machine can hold many times over. -/
def SmallC (c : S42) : Prop := c.f5.length ≤ 1000 ∧ c.f6.length ≤ 1000
def SmallL (l : List S42) : Prop := l.length ≤ 1000 ∧ ∀ c ∈ l, SmallC c
instance (c : S42) : Decidable (SmallC c) := inferInstanceAs (Decidable (c.f5.length ≤ 1000 ∧ c.f6.length ≤ 1000))
instance (l : List S42) : Decidable (SmallL l) := inferInstanceAs (Decidable (l.length ≤ 1000 ∧ ∀ c ∈ l, SmallC c))
theorem WholeP.small {l : List S42} (h : WholeP l) : SmallL l := ⟨by have := h.n1; omega, fun c hc => by
 obtain ⟨j, hj, rfl⟩ := List.mem_iff_getElem.1 hc
 have := (h.at_ j hj).2
 exact ⟨by have := this.ulen; omega, by have := this.nlen; omega⟩⟩
theorem rd_at (l : List Int) (i : Nat) (h : i < l.length) : rd l (i : Int) = l[i] := by simp [rd, List.getD_eq_getElem?_getD, h]
theorem rdT_at (l : List S42) (i : Nat) (h : i < l.length) : rd_T42 l (i : Int) = l[i] := by simp [rd_T42, List.getD_eq_getElem?_getD, h]
theorem w64s (i : Nat) (h : i ≤ 100000) : wrap64 ((i : Int) + 1) = ((i + 1 : Nat) : Int) := by unfold wrap64; omega
/-! ### rising -/
theorem rising_l0 (l : List Int) (hl : l.length ≤ 1000) (b : Int) : ∀ (q i : Nat) (a : Int) (k : Nat), i + q = l.length → cyl_rising.l0 (k + q + 1) b a l (l.length : Int) (i : Int) = some (rise2 a (l.drop i) b)
 | 0, i, a, k, h => by
  rw [cyl_rising.l0, if_neg (by omega), List.drop_of_length_le (by omega)]
  rfl
 | q + 1, i, a, k, h => by
  have hi : i < l.length := by omega
  rw [show k + (q + 1) + 1 = (k + q + 1) + 1 by omega, cyl_rising.l0, if_pos (by omega), if_pos (by omega), if_pos (by omega), rd_at l i hi, List.drop_eq_getElem_cons hi, rise2_cons, w64s i (by omega)]
  by_cases h1 : l[i] ≤ a
  ·rw [if_pos h1, if_pos (.inl h1)]
  ·rw [if_neg h1]
   by_cases h2 : l[i] ≥ b
   ·rw [if_pos h2, if_pos (.inr h2)]
   ·rw [if_neg h2, if_neg (by omega)]
    exact rising_l0 l hl b q (i + 1) _ k (by omega)
theorem rising_is (l : List Int) (hl : l.length ≤ 1000) (b : Int) (k : Nat) : cyl_rising.f (k + 1001) l b = some (rise2 (-1) l b) := by
 have := rising_l0 l hl b l.length 0 (-1) (k + (1000 - l.length)) (by omega)
 rw [show k + (1000 - l.length) + l.length + 1 = k + 1001 by omega] at this
 exact this
theorem rrising_l0 (l : List Int) (hl : l.length ≤ 1000) (b : Int) : ∀ (q i : Nat) (a : Int) (k : Nat), i + q = l.length → -1 ≤ a → (i = 0 → a = -1) → (∀ h : 0 < i, ∀ h2 : i - 1 < l.length, a = l[i - 1]) → selvedgeref18_rising.l0 (k + q + 1) l b (i : Int) = some (rise2 a (l.drop i) b)
 | 0, i, a, k, h, h0, h1, h2 => by
  rw [selvedgeref18_rising.l0, if_neg (by omega), List.drop_of_length_le (by omega)]
  rfl
 | q + 1, i, a, k, h, h0, h1, h2 => by
  have hi : i < l.length := by omega
  rw [show k + (q + 1) + 1 = (k + q + 1) + 1 by omega, selvedgeref18_rising.l0, if_pos (by omega), if_pos (by omega), rd_at l i hi, List.drop_eq_getElem_cons hi, rise2_cons, w64s i (by omega)]
  by_cases g1 : l[i] < 0
  ·rw [if_pos g1, if_pos (.inl (by omega))]
  ·rw [if_neg g1]
   by_cases g2 : l[i] ≥ b
   ·rw [if_pos g2, if_pos (.inr g2)]
   ·rw [if_neg g2]
    have step : ∀ a', a' = l[i] → selvedgeref18_rising.l0 (k + q + 1) l b ((i + 1 : Nat) : Int) = some (rise2 l[i] (l.drop (i + 1)) b) := fun a' _ => rrising_l0 l hl b q (i + 1) l[i] k (by omega) (by omega) (by omega) (fun _ _ => by simp)
    by_cases g3 : 0 < i
    ·have e : wrap64 ((i : Int) - 1) = ((i - 1 : Nat) : Int) := by unfold wrap64; omega
     rw [if_pos (by omega), e, if_pos (by omega), if_pos (by omega), rd_at l (i - 1) (by omega), ← h2 g3 (by omega)]
     by_cases g4 : l[i] ≤ a
     ·rw [if_pos g4, if_pos (.inl g4)]
     ·rw [if_neg g4, if_neg (by omega)]
      exact step _ rfl
    ·have := h1 (by omega)
     rw [if_neg (by omega), if_neg (by omega)]
     exact step _ rfl
theorem rrising_is (l : List Int) (hl : l.length ≤ 1000) (b : Int) (k : Nat) : selvedgeref18_rising.f (k + 1001) l b = some (rise2 (-1) l b) := by
 have := rrising_l0 l hl b l.length 0 (-1) (k + (1000 - l.length)) (by omega) (by omega) (fun _ => rfl) (fun h => by omega)
 rw [show k + (1000 - l.length) + l.length + 1 = k + 1001 by omega] at this
 exact this
/-! ### right -/
theorem counts (n : Nat) (a _b : Int) (ha : 1 ≤ a ∧ a ≤ 64 ∨ a = 16) (h : n ≤ 1000) : wrap64 (a - (n : Int)) = a - (n : Int) := by unfold wrap64; omega
theorem right_is (c : S42) (hc : SmallC c) (k : Nat) : cyl_Right.f (k + 1003) c.f0 c.f1 c.f2 c.f3 c.f4 c.f5 c.f6 = some (rightB c) := by
 obtain ⟨hu, hn⟩ := hc
 have j0t : cyl_Right.j0 (k + 1003) true c.f0 c.f1 c.f2 c.f3 c.f4 c.f5 c.f6 = some false := by rw [cyl_Right.j0, if_pos rfl]
 have j1t : cyl_Right.j1 (k + 1002) true c.f0 c.f1 c.f2 c.f3 c.f4 c.f5 c.f6 = some false := by rw [cyl_Right.j1, if_pos rfl]
 have no : ¬ RightP c → rightB c = false := fun h => by
  cases e : rightB c with
  | true => exact absurd ((right_iff c).1 e) h
  | false => rfl
 unfold cyl_Right.f
 by_cases h1 : c.f0 < 0
 ·rw [if_pos h1, j0t, no fun h => by have := h.i0; omega]
 ·rw [if_neg h1]
  by_cases h2 : c.f0 ≥ 16
  ·rw [if_pos h2, j0t, no fun h => by have := h.i1; omega]
  ·rw [if_neg h2]
   by_cases h3 : c.f1 < 1
   ·rw [if_pos h3, j0t, no fun h => by have := h.b0; omega]
   ·rw [if_neg h3]
    by_cases h4 : c.f1 > 64
    ·rw [decide_eq_true h4, j0t, no fun h => by have := h.b1; omega]
    ·rw [decide_eq_false h4, cyl_Right.j0, if_neg (by decide)]
     by_cases h5 : c.f4 < 0
     ·rw [if_pos h5, j1t, no fun h => by have := h.r0; omega]
     ·rw [if_neg h5]
      by_cases h6 : c.f4 ≥ c.f1
      ·rw [decide_eq_true h6, j1t, no fun h => by have := h.r1; omega]
      ·rw [decide_eq_false h6, cyl_Right.j1, if_neg (by decide), rising_is c.f5 hu, Option.bind_some]
       cases h7 : rise2 (-1) c.f5 c.f1 with
       | false => rw [if_neg (by decide), no fun h => by have := h.u; rw [h7] at this; cases this]
       | true =>
        rw [if_pos rfl, rising_is c.f6 hn, Option.bind_some]
        cases h8 : rise2 (-1) c.f6 16 with
        | false => rw [if_neg (by decide), no fun h => by have := h.n; rw [h8] at this; cases this]
        | true =>
         rw [if_pos rfl]
         unfold cyl_counted.f
         rw [counts _ _ 0 (.inl (by omega)) hu, counts _ _ 0 (.inr rfl) hn]
         by_cases h9 : c.f2 = c.f1 - (c.f5.length : Int)
         ·rw [if_pos h9, Option.bind_some]
          by_cases h10 : c.f3 = 16 - (c.f6.length : Int)
          ·rw [(right_iff c).2 ⟨by omega, by omega, by omega, by omega, by omega, by omega, h7, h8, h9, h10⟩, h10]; simp
          ·rw [no fun h => h10 h.fi]; simpa using h10
         ·rw [if_neg h9, Option.bind_some, no fun h => h9 h.fb]
theorem rright_is (c : S42) (hc : SmallC c) (k : Nat) : selvedgeref18_Right.f (k + 1001) c.f0 c.f1 c.f2 c.f3 c.f4 c.f5 c.f6 = some (rightB c) := by
 obtain ⟨hu, hn⟩ := hc
 have no : ¬ RightP c → rightB c = false := fun h => by
  cases e : rightB c with
  | true => exact absurd ((right_iff c).1 e) h
  | false => rfl
 unfold selvedgeref18_Right.f
 by_cases h1 : c.f0 ≥ 0
 ·rw [if_pos h1]
  by_cases h2 : c.f0 < 16
  ·rw [if_pos h2]
   by_cases h3 : c.f1 ≥ 1
   ·rw [if_pos h3]
    by_cases h4 : c.f1 ≤ 64
    ·rw [if_pos h4]
     by_cases h5 : c.f4 ≥ 0
     ·rw [if_pos h5]
      by_cases h6 : c.f4 < c.f1
      ·rw [if_pos h6, rrising_is c.f5 hu, Option.bind_some]
       cases h7 : rise2 (-1) c.f5 c.f1 with
       | false => rw [if_neg (by decide), no fun h => by have := h.u; rw [h7] at this; cases this]
       | true =>
        rw [if_pos rfl, rrising_is c.f6 hn, Option.bind_some]
        cases h8 : rise2 (-1) c.f6 16 with
        | false => rw [if_neg (by decide), no fun h => by have := h.n; rw [h8] at this; cases this]
        | true =>
         rw [if_pos rfl, counts _ _ 0 (.inl (by omega)) hu, counts _ _ 0 (.inr rfl) hn]
         by_cases h9 : c.f2 = c.f1 - (c.f5.length : Int)
         ·rw [if_pos h9]
          by_cases h10 : c.f3 = 16 - (c.f6.length : Int)
          ·rw [(right_iff c).2 ⟨by omega, by omega, by omega, by omega, by omega, by omega, h7, h8, h9, h10⟩, h10]; simp
          ·rw [no fun h => h10 h.fi]; simpa using h10
         ·rw [if_neg h9, no fun h => h9 h.fb]
      ·rw [if_neg h6, no fun h => by have := h.r1; omega]
     ·rw [if_neg h5, no fun h => by have := h.r0; omega]
    ·rw [if_neg h4, no fun h => by have := h.b1; omega]
   ·rw [if_neg h3, no fun h => by have := h.b0; omega]
  ·rw [if_neg h2, no fun h => by have := h.i1; omega]
 ·rw [if_neg h1, no fun h => by have := h.i0; omega]
/-! ### whole -/
theorem whole_l0 (l : List S42) (hl : SmallL l) : ∀ (q i : Nat) (k : Nat), i + q = l.length → cyl_Whole.l0 (k + q + 1004) l (l.length : Int) (i : Int) = some (wholeF i (l.drop i))
 | 0, i, k, h => by
  rw [show k + 0 + 1004 = (k + 1003) + 1 by omega, cyl_Whole.l0, if_neg (by omega), List.drop_of_length_le (by omega)]
  rfl
 | q + 1, i, k, h => by
  have hi : i < l.length := by omega
  have hn := hl.1
  rw [show k + (q + 1) + 1004 = (k + q + 1004) + 1 by omega, cyl_Whole.l0, if_pos (by omega), if_pos (by omega), if_pos (by omega), rdT_at l i hi, List.drop_eq_getElem_cons hi, w64s i (by omega)]
  unfold wholeF
  by_cases h1 : l[i].f0 = (i : Int)
  ·rw [if_pos h1, decide_eq_true h1, Bool.true_and, show k + q + 1004 = (k + q + 1) + 1003 by omega, right_is l[i] (hl.2 _ (List.getElem_mem hi)), Option.bind_some]
   cases h2 : rightB l[i] with
   | true =>
    rw [if_pos rfl, Bool.true_and, show (k + q + 1) + 1003 = k + q + 1004 by omega]
    exact whole_l0 l hl q (i + 1) k (by omega)
   | false => rw [if_neg (by decide)]; rfl
  ·rw [if_neg h1, decide_eq_false h1]; rfl
theorem whole_is (l : List S42) (hl : SmallL l) (k : Nat) : cyl_Whole.f (k + 2005) l = some (wholeB l) := by
 have hn := hl.1
 have hw := whole_l0 l hl l.length 0 (k + (1000 - l.length)) (by omega)
 rw [show k + (1000 - l.length) + l.length + 1004 = k + 2004 by omega] at hw
 have hw' : cyl_Whole.l0 (k + 2004) l (l.length : Int) 0 = some (wholeF 0 l) := hw
 unfold cyl_Whole.f wholeB
 by_cases h0 : (l.length : Int) = 0
 ·rw [if_pos h0, cyl_Whole.j0, if_pos rfl, decide_eq_false (by omega)]; rfl
 ·rw [if_neg h0]
  by_cases h1 : (l.length : Int) > 16
  ·rw [decide_eq_true h1, cyl_Whole.j0, if_pos rfl, decide_eq_true (show 1 ≤ l.length by omega), decide_eq_false (show ¬ l.length ≤ 16 by omega)]; rfl
  ·rw [decide_eq_false h1, cyl_Whole.j0, if_neg (by decide), hw', decide_eq_true (show 1 ≤ l.length by omega), decide_eq_true (show l.length ≤ 16 by omega)]; rfl
end Go.Proofs.Ytehjmmedghcndaa.PG
