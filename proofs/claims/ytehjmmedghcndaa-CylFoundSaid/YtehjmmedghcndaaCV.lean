import Derived.Test.YtehjmmedghcndaaCP
import Derived.Test.YtehjmmedghcndaaG3
/-! cyl: what the reference's small functions answer -/
namespace Go.Proofs.Ytehjmmedghcndaa.PG
open Go.RowKit Go.Proofs.YtehjmmedghcndaaW.PrintWords Go.Proofs.YtehjmmedghcndaaW.PrintLast Go.Proofs.YtehjmmedghcndaaW.PrintMore
theorem rhas_l0 (l : List Int) (hl : l.length ≤ 1000) (n : Int) : ∀ (q i : Nat) (k : Nat), i + q = l.length → selvedgeref18_has.l0 (k + q + 1) l n (i : Int) = some ((l.drop i).contains n)
 | 0, i, k, h => by
  unfold selvedgeref18_has.l0
  rw [if_neg (by omega), List.drop_of_length_le (by omega)]
  rfl
 | q + 1, i, k, h => by
  have hi : i < l.length := by omega
  have ih := rhas_l0 l hl n q (i + 1) k (by omega)
  rw [show k + (q + 1) + 1 = (k + q + 1) + 1 by omega, selvedgeref18_has.l0, if_pos (by omega), if_pos (by omega), rd_at _ _ hi, List.drop_eq_getElem_cons hi, List.contains_cons, w64s i (by omega), ih]
  by_cases he : l[i] = n
  ·rw [if_pos he]
   simp [he]
  ·rw [if_neg he, (beq_eq_false_iff_ne.2 (fun e => he e.symm) : (n == l[i]) = false), Bool.false_or]
theorem rhas_is (l : List Int) (hl : l.length ≤ 1000) (n : Int) (k : Nat) : selvedgeref18_has.f (k + 1001) l n = some (l.contains n) := by
 have h := rhas_l0 l hl n l.length 0 (k + (1000 - l.length)) (by omega)
 rw [List.drop_zero] at h
 unfold selvedgeref18_has.f
 rw [show k + 1001 = k + (1000 - l.length) + l.length + 1 from by omega]
 exact h
/-- A number in its place. -/
def insS (n : Int) : List Int → List Int
 | [] => [n]
 | x :: t => if n < x then n :: x :: t else x :: insS n t
theorem insS_put (n b : Int) : ∀ (l : List Int) (a : Int), rise2 a l b = true → l.contains n = false → insS n l = putAt l (ixOf l n) n
 | [], _, _, _ => rfl
 | x :: t, a, h, hc => by
  rw [rise2_cons] at h
  by_cases hx : x ≤ a ∨ x ≥ b
  ·rw [if_pos hx] at h; cases h
  ·rw [if_neg hx] at h
   rw [List.contains_cons, Bool.or_eq_false_iff, beq_eq_false_iff_ne] at hc
   unfold insS ixOf
   by_cases hn : n < x
   ·rw [if_pos hn, List.countP_eq_zero.2 (fun y hy => by
     rcases List.mem_cons.1 hy with rfl | hy
     ·simp; omega
     ·have := ((rise2_all h).1 y hy).1
      simp; omega)]
    rfl
   ·have hlt : x < n := by have := hc.1; omega
    rw [if_neg hn, insS_put n b t x h hc.2, List.countP_cons_of_pos (by simpa using hlt)]
    rfl
theorem rwith_l0 (l : List Int) (hl : l.length ≤ 1000) (n : Int) : ∀ (q i : Nat) (out : List Int) (p : Bool) (k : Nat), i + q = l.length → out.length ≤ 2 * i →
  selvedgeref18_with.l0 (k + q + 1) l n out p (i : Int) = some (out ++ (if p = true then l.drop i else insS n (l.drop i)))
 | 0, i, out, p, k, h, ho => by
  rw [show k + 0 + 1 = k + 1 by omega, selvedgeref18_with.l0, if_neg (by omega), List.drop_of_length_le (by omega)]
  cases p with
  | true => simp
  | false =>
   simp only [Bool.false_eq_true, ↓reduceIte]
   rw [if_pos (by omega)]
   rfl
 | q + 1, i, out, p, k, h, ho => by
  have hi : i < l.length := by omega
  have hd := List.drop_eq_getElem_cons hi
  rw [show k + (q + 1) + 1 = (k + q + 1) + 1 by omega, selvedgeref18_with.l0, if_pos (by omega), rd_at _ _ hi, w64s i (by omega), hd]
  cases p with
  | true =>
   simp only [↓reduceIte]
   rw [if_pos (by omega), if_pos (by omega), rwith_l0 l hl n q (i + 1) _ true k (by omega) (by rw [List.length_append, List.length_singleton]; omega), if_pos rfl, List.append_assoc]
   rfl
  | false =>
   simp only [Bool.false_eq_true, ↓reduceIte]
   rw [if_pos (by omega)]
   show _ = some (out ++ (if n < l[i] then n :: l[i] :: l.drop (i + 1) else l[i] :: insS n (l.drop (i + 1))))
   by_cases hn : n < l[i]
   ·rw [if_pos hn, if_pos hn, if_pos (by omega), Option.bind_some, if_pos (by rw [List.length_append, List.length_singleton]; omega), rwith_l0 l hl n q (i + 1) _ true k (by omega) (by simp only [List.length_append, List.length_singleton]; omega), if_pos rfl, List.append_assoc, List.append_assoc]
    rfl
   ·rw [if_neg hn, if_neg hn, if_pos (by omega), rwith_l0 l hl n q (i + 1) _ false k (by omega) (by rw [List.length_append, List.length_singleton]; omega)]
    simp only [Bool.false_eq_true, ↓reduceIte]
    rw [List.append_assoc]
    rfl
theorem rwith_is (l : List Int) (hl : l.length ≤ 1000) (a b n : Int) (hr : rise2 a l b = true) (hc : l.contains n = false) (k : Nat) : selvedgeref18_with.f (k + 1001) l n = some (putAt l (ixOf l n) n) := by
 have h := rwith_l0 l hl n l.length 0 [] false (k + (1000 - l.length)) (by omega) (by simp)
 rw [List.drop_zero] at h
 simp only [Bool.false_eq_true, ↓reduceIte] at h
 rw [List.nil_append, insS_put n b l a hr hc] at h
 unfold selvedgeref18_with.f
 rw [show k + 1001 = k + (1000 - l.length) + l.length + 1 from by omega]
 exact h
theorem rcopy_is (a0 a1 a2 a3 a4 : Int) (l5 l6 : List Int) (h5 : l5.length ≤ 1001) (h6 : l6.length ≤ 1001) : selvedgeref18_Copy.f a0 a1 a2 a3 a4 l5 l6 = some (a0, a1, a2, a3, a4, l5, l6) := by
 unfold selvedgeref18_Copy.f
 rw [Option.bind_some, if_pos (by simp; omega), Option.bind_some, if_pos (by simp; omega)]
 rfl
theorem rset_l0 (l : List S42) (hl : SmallL l) (f : Nat) (f1 f4 : Int) (l5 l6 : List Int) (h5 : l5.length ≤ 1001) (h6 : l6.length ≤ 1001) :
  ∀ (q i : Nat) (a2 a3 : Int) (out : List S42) (k : Nat), i + q = l.length → out.length = i →
  selvedgeref18_set.l0 (k + q + 1) l out (i : Int) (f : Int) f1 a2 a3 f4 l5 l6 = some (out ++ (l.set f ⟨(f : Int), f1, wrap64 (f1 - (l5.length : Int)), wrap64 (16 - (l6.length : Int)), f4, l5, l6⟩).drop i)
 | 0, i, a2, a3, out, k, h, ho => by
  rw [show k + 0 + 1 = k + 1 by omega, selvedgeref18_set.l0, if_neg (by omega), List.drop_of_length_le (by rw [List.length_set]; omega), List.append_nil]
 | q + 1, i, a2, a3, out, k, h, ho => by
  have hi : i < l.length := by omega
  have hl1 := hl.1
  have hd := List.drop_eq_getElem_cons (l := l.set f ⟨(f : Int), f1, wrap64 (f1 - (l5.length : Int)), wrap64 (16 - (l6.length : Int)), f4, l5, l6⟩) (i := i) (by rw [List.length_set]; exact hi)
  rw [show k + (q + 1) + 1 = (k + q + 1) + 1 by omega, selvedgeref18_set.l0, if_pos (by omega), w64s i (by omega), hd, List.getElem_set]
  by_cases he : f = i
  ·subst he
   rw [if_pos rfl, if_pos rfl, rcopy_is _ _ _ _ _ _ _ h5 h6, Option.bind_some, if_pos (by omega), rset_l0 l hl f f1 f4 l5 l6 h5 h6 q (f + 1) _ _ _ k (by omega) (by rw [List.length_append, List.length_singleton]; omega), List.append_assoc]
   rfl
  ·have hs := hl.2 l[i] (List.getElem_mem hi)
   rw [if_neg (by omega), if_neg he, if_pos (by omega), rdT_at l i hi, rcopy_is _ _ _ _ _ _ _ (by have := hs.1; omega) (by have := hs.2; omega), Option.bind_some, if_pos (by omega), rset_l0 l hl f f1 f4 l5 l6 h5 h6 q (i + 1) _ _ _ k (by omega) (by rw [List.length_append, List.length_singleton]; omega), List.append_assoc]
   rfl
theorem rset_is (l : List S42) (hl : SmallL l) (f : Nat) (f1 a2 a3 f4 : Int) (l5 l6 : List Int) (h5 : l5.length ≤ 1001) (h6 : l6.length ≤ 1001) (k : Nat) :
  selvedgeref18_set.f (k + 1001) l (f : Int) f1 a2 a3 f4 l5 l6 = some (l.set f ⟨(f : Int), f1, wrap64 (f1 - (l5.length : Int)), wrap64 (16 - (l6.length : Int)), f4, l5, l6⟩) := by
 have hl1 := hl.1
 have h := rset_l0 l hl f f1 f4 l5 l6 h5 h6 l.length 0 a2 a3 [] (k + (1000 - l.length)) (by omega) rfl
 rw [List.drop_zero, List.nil_append] at h
 unfold selvedgeref18_set.f
 rw [show k + 1001 = k + (1000 - l.length) + l.length + 1 from by omega]
 exact h
end Go.Proofs.Ytehjmmedghcndaa.PG
