import Derived.Test.YtehjmmedghcndaaDA
import Derived.Test.YtehjmmedghcndaaDC
/-! cyl, plain: how many blocks are free behind a take; none is found where none is free -/
namespace Go.Proofs.Ytehjmmedghcndaa.PG
open Go.RowKit Go.Proofs.YtehjmmedghcndaaW.PrintWords Go.Proofs.YtehjmmedghcndaaW.PrintLast Go.Proofs.YtehjmmedghcndaaW.PrintMore
theorem roundL_all {fr n j : Nat} (hj : j < n) : (j : Int) ∈ roundL fr n := by
 unfold roundL
 refine List.mem_map.2 ⟨(j + (n - fr % n)) % n, List.mem_range.2 (Nat.mod_lt _ (by omega)), ?_⟩
 have h1 : (fr + (j + (n - fr % n)) % n) % n = j := by
  have hf : fr % n < n := Nat.mod_lt _ (by omega)
  rw [Nat.add_mod, Nat.mod_mod, ← Nat.add_mod]
  have e : fr + (j + (n - fr % n)) = j + n * (fr / n + 1) := by
   have := Nat.div_add_mod fr n
   rw [Nat.mul_add, Nat.mul_one]
   omega
  rw [e, Nat.add_mul_mod_self_left, Nat.mod_eq_of_lt hj]
 rw [h1]
theorem rise_full (b : Int) : ∀ (l : List Int) (a : Int), rise2 a l b = true → (∀ y, a < y → y < b → l.contains y = true) → (l.length : Int) = max (b - a - 1) 0
 | [], a, _, h => by
  by_cases hb : a + 1 < b
  ·have := h (a + 1) (by omega) hb
   cases this
  ·simp; omega
 | x :: t, a, hr, h => by
  rw [rise2_cons] at hr
  by_cases hx : x ≤ a ∨ x ≥ b
  ·rw [if_pos hx] at hr; cases hr
  ·rw [if_neg hx] at hr
   have hall := (rise2_all hr).1
   have hxa : x = a + 1 := by
    have h1 := h (a + 1) (by omega) (by omega)
    rw [List.contains_cons, Bool.or_eq_true, beq_iff_eq] at h1
    rcases h1 with h1 | h1
    ·exact h1.symm
    ·have := hall _ (List.contains_iff_mem.1 h1); omega
   have ih := rise_full b t x hr (fun y h1 h2 => by
    have h3 := h y (by omega) h2
    rw [List.contains_cons, Bool.or_eq_true, beq_iff_eq] at h3
    rcases h3 with h3 | h3
    ·omega
    ·exact h3)
   rw [List.length_cons]
   omega
/-- Where no block of a group is found, none is free. -/
theorem free_none {c : S42} (hc : RightP c) {fr : Int} (h : freeC c fr = none) : c.f2 = 0 := by
 have hall : ∀ y, (-1 : Int) < y → y < c.f1 → c.f5.contains y = true := fun y h1 h2 => by
  obtain ⟨n, rfl⟩ := Int.eq_ofNat_of_zero_le (show 0 ≤ y by omega)
  have hm : (n : Int) ∈ roundL fr.toNat c.f1.toNat := roundL_all (by omega)
  have := List.find?_eq_none.1 h _ hm
  simpa using this
 have := rise_full c.f1 c.f5 (-1) hc.u hall
 have := hc.fb
 have := hc.b0
 omega
theorem sumB_zero : ∀ (l : List S42), (∀ c ∈ l, c.f2 = 0) → sumB l = 0
 | [], _ => rfl
 | c :: t, h => by
  show c.f2 + sumB t = 0
  rw [h c (by simp), sumB_zero t (fun d hd => h d (List.mem_cons_of_mem _ hd))]
  rfl
theorem sumB_set : ∀ (l : List S42) (i : Nat) (hi : i < l.length) (c : S42), sumB (l.set i c) = sumB l - l[i].f2 + c.f2
 | d :: t, 0, _, c => by
  show c.f2 + sumB t = d.f2 + sumB t - d.f2 + c.f2
  omega
 | d :: t, i + 1, hi, c => by
  have hi2 : i < t.length := by simpa using hi
  have := sumB_set t i hi2 c
  show d.f2 + sumB (t.set i c) = d.f2 + sumB t - t[i].f2 + c.f2
  omega
theorem sumI_set : ∀ (l : List S42) (i : Nat) (hi : i < l.length) (c : S42), sumI (l.set i c) = sumI l - l[i].f3 + c.f3
 | d :: t, 0, _, c => by
  show c.f3 + sumI t = d.f3 + sumI t - d.f3 + c.f3
  omega
 | d :: t, i + 1, hi, c => by
  have hi2 : i < t.length := by simpa using hi
  have := sumI_set t i hi2 c
  show d.f3 + sumI (t.set i c) = d.f3 + sumI t - t[i].f3 + c.f3
  omega
theorem take_none {l : List S42} {a b : Int} (hm : mayS l a b 46 = 0) (h : ∀ x ∈ roundL a.toNat l.length, freeAt l a b x = none) : sumB l = 0 := by
 have hw := may_whole hm
 refine sumB_zero l (fun c hc => ?_)
 obtain ⟨j, hj, rfl⟩ := List.mem_iff_getElem.1 hc
 have h1 := h (j : Int) (roundL_all hj)
 unfold freeAt at h1
 rw [rdT_at l j hj] at h1
 exact free_none (hw.at_ j hj).2 h1
/-- An address that may be. -/
theorem may46 {l : List S42} (hw : WholeP l) {g : Nat} (hg : g < l.length) {b : Int} (h0 : 0 ≤ b) (h1 : b < l[g].f1) : mayS l (g : Int) b 46 = 0 := by
 unfold mayS
 rw [(whole_iff l).2 hw, if_neg (by decide), if_neg]
 unfold manyS
 rw [if_pos rfl, rdT_at l g hg]
 omega
theorem take_sum {l : List S42} {xn : Nat} (hx : xn < l.length) (hw : WholeP l) (y : Int) : sumB (l.set xn (takeC l[xn] y)) = sumB l - 1 ∧ sumI (l.set xn (takeC l[xn] y)) = sumI l := by
 have hr := (hw.at_ xn hx).2
 have h1 := hr.fb
 have h2 := hr.fi
 rw [sumB_set l xn hx, sumI_set l xn hx]
 unfold takeC
 constructor
 ·show sumB l - l[xn].f2 + (l[xn].f1 - ((l[xn].f5.length : Int) + 1)) = sumB l - 1
  omega
 ·show sumI l - l[xn].f3 + (16 - (l[xn].f6.length : Int)) = sumI l
  omega
end Go.Proofs.Ytehjmmedghcndaa.PG
