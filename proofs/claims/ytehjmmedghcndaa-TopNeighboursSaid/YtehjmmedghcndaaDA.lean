import Derived.Test.YtehjmmedghcndaaCU
import Derived.Test.YtehjmmedghcndaaCV
/-! cyl, plain: groups stay right: behind a take, behind an inode taken -/
namespace Go.Proofs.Ytehjmmedghcndaa.PG
open Go.RowKit Go.Proofs.YtehjmmedghcndaaW.PrintWords Go.Proofs.YtehjmmedghcndaaW.PrintLast Go.Proofs.YtehjmmedghcndaaW.PrintMore
theorem rise_ins (x b : Int) : ∀ (l : List Int) (a : Int), rise2 a l b = true → l.contains x = false → a < x → x < b → rise2 a (insS x l) b = true
 | [], a, _, _, h1, h2 => by
  show rise2 a [x] b = true
  rw [rise2_cons, if_neg (by omega)]
  rfl
 | y :: t, a, h, hc, h1, h2 => by
  rw [rise2_cons] at h
  by_cases hy : y ≤ a ∨ y ≥ b
  ·rw [if_pos hy] at h; cases h
  ·rw [if_neg hy] at h
   rw [List.contains_cons, Bool.or_eq_false_iff, beq_eq_false_iff_ne] at hc
   show rise2 a (if x < y then x :: y :: t else y :: insS x t) b = true
   by_cases hx : x < y
   ·rw [if_pos hx, rise2_cons, if_neg (by omega), rise2_cons, if_neg (by omega)]
    exact h
   ·rw [if_neg hx, rise2_cons, if_neg hy]
    have := hc.1
    exact rise_ins x b t y h hc.2 (by omega) h2
theorem rise_put {x a b : Int} {l : List Int} (h : rise2 a l b = true) (hc : l.contains x = false) (h1 : a < x) (h2 : x < b) : rise2 a (putAt l (ixOf l x) x) b = true := by
 rw [← insS_put x b l a h hc]
 exact rise_ins x b l a h hc h1 h2
theorem RightP.take {c : S42} (h : RightP c) {b : Int} (h0 : 0 ≤ b) (h1 : b < c.f1) (hc : c.f5.contains b = false) : RightP (takeC c b) := by
 have hb0 := h.b0
 refine ⟨h.i0, h.i1, h.b0, h.b1, ?_, ?_, rise_put h.u hc (by omega) h1, h.n, ?_, rfl⟩
 ·show 0 ≤ (b + 1) % c.f1
  exact Int.emod_nonneg _ (by omega)
 ·show (b + 1) % c.f1 < c.f1
  exact Int.emod_lt_of_pos _ (by omega)
 ·show c.f1 - ((c.f5.length : Int) + 1) = c.f1 - ((putAt c.f5 (ixOf c.f5 b) b).length : Int)
  rw [putAt_len]
  omega
theorem RightP.first {c : S42} (h : RightP c) (hz : c.f3 ≠ 0) : RightP (firstC c) := by
 have hfi := h.fi
 have hm := mex_le c.f6
 have hl := h.nlen
 obtain ⟨m1, m2, _⟩ := mex_at h.n
 refine ⟨h.i0, h.i1, h.b0, h.b1, h.r0, h.r1, h.u, ?_, rfl, ?_⟩
 ·show rise2 (-1) (putAt c.f6 (mex c.f6) (mex c.f6 : Int)) 16 = true
  have := rise_put h.n m1 (by omega) (by omega)
  rw [m2] at this
  exact this
 ·show 16 - ((c.f6.length : Int) + 1) = 16 - ((putAt c.f6 (mex c.f6) (mex c.f6 : Int)).length : Int)
  rw [putAt_len]
  omega
theorem WholeP.set {l : List S42} (h : WholeP l) (i : Nat) {c : S42} (hc : RightP c) (h0 : c.f0 = (i : Int)) : WholeP (l.set i c) := ⟨by rw [List.length_set]; exact h.n0, by rw [List.length_set]; exact h.n1, fun j hj => by
 rw [List.length_set] at hj
 rw [List.getElem_set]
 by_cases e : i = j
 ·subst e
  rw [if_pos rfl]
  exact ⟨h0, hc⟩
 ·rw [if_neg e]
  exact h.at_ j hj⟩
theorem roundL_mem {fr n : Nat} {x : Int} (h : x ∈ roundL fr n) : 0 ≤ x ∧ x < (n : Int) := by
 unfold roundL at h
 obtain ⟨i, hi, rfl⟩ := List.mem_map.1 h
 have hn : i < n := List.mem_range.1 hi
 have : (fr + i) % n < n := Nat.mod_lt _ (by omega)
 omega
theorem freeC_some {c : S42} {fr y : Int} (h : freeC c fr = some y) : 0 ≤ y ∧ y < (c.f1.toNat : Int) ∧ c.f5.contains y = false := by
 unfold freeC at h
 have h1 := roundL_mem (List.mem_of_find?_eq_some h)
 have h2 := List.find?_some h
 exact ⟨h1.1, h1.2, by simpa using h2⟩
/-- What a take comes to. -/
theorem takeS_cases (l : List S42) (a b : Int) : (mayS l a b 46 ≠ 0 ∧ takeS l a b = ([], 0, 0, mayS l a b 46)) ∨
  (mayS l a b 46 = 0 ∧ takeS l a b = ([], 0, 0, 4) ∧ ∀ x ∈ roundL a.toNat l.length, freeAt l a b x = none) ∨
  (mayS l a b 46 = 0 ∧ ∃ (xn : Nat) (hx : xn < l.length) (y : Int), takeS l a b = (l.set xn (takeC l[xn] y), (xn : Int), y, 0) ∧ 0 ≤ y ∧ y < l[xn].f1 ∧ l[xn].f5.contains y = false) := by
 by_cases hm : mayS l a b 46 = 0
 ·right
  have hw : WholeP l := by
   cases hw : wholeB l with
   | true => exact (whole_iff l).1 hw
   | false => unfold mayS at hm; rw [hw, if_pos rfl] at hm; cases hm
  cases hf : (roundL a.toNat l.length).findSome? (fun x => (freeAt l a b x).map (fun y => (x, y))) with
  | none =>
   left
   have e : takeS l a b = ([], 0, 0, 4) := by
    unfold takeS
    rw [if_neg (fun h => h hm), hf]
   refine ⟨hm, e, fun x hx => ?_⟩
   have := List.findSome?_eq_none_iff.1 hf x hx
   simpa using this
  | some p =>
   right
   obtain ⟨x, y⟩ := p
   have e : takeS l a b = (l.set x.toNat (takeC (rd_T42 l x) y), x, y, 0) := by
    unfold takeS
    rw [if_neg (fun h => h hm), hf]
   obtain ⟨z, hz, hzy⟩ := List.exists_of_findSome?_eq_some hf
   have hr := roundL_mem hz
   cases hfa : freeAt l a b z with
   | none => rw [hfa] at hzy; cases hzy
   | some t =>
    rw [hfa] at hzy
    obtain ⟨rfl, rfl⟩ : z = x ∧ t = y := by simpa using hzy
    obtain ⟨zn, rfl⟩ := Int.eq_ofNat_of_zero_le hr.1
    have hzl : zn < l.length := by have := hr.2; omega
    unfold freeAt at hfa
    have e2 : rd_T42 l ((zn : Nat) : Int) = l[zn] := rdT_at l zn hzl
    rw [e2] at hfa
    have h3 := freeC_some hfa
    have hb := (hw.at_ zn hzl).2.b0
    refine ⟨hm, zn, hzl, t, ?_, h3.1, by omega, h3.2.2⟩
    rw [e, e2]
    rfl
 ·exact .inl ⟨hm, by unfold takeS; rw [if_pos hm]⟩
theorem may_whole {l : List S42} {a b : Int} {f : Nat} (hm : mayS l a b f = 0) : WholeP l := by
 cases hw : wholeB l with
 | true => exact (whole_iff l).1 hw
 | false => unfold mayS at hm; rw [hw, if_pos rfl] at hm; cases hm
/-- A take that goes leaves groups whole. -/
theorem take_whole {l : List S42} {a b : Int} (h : (takeS l a b).2.2.2 = 0) : WholeP (takeS l a b).1 := by
 rcases takeS_cases l a b with ⟨h1, h2⟩ | ⟨h1, h2, _⟩ | ⟨h1, xn, hx, y, h2, h3, h4, h5⟩
 ·rw [h2] at h; exact absurd h h1
 ·rw [h2] at h; cases h
 ·rw [h2]
  have hw := may_whole h1
  obtain ⟨g1, g2⟩ := hw.at_ xn hx
  exact hw.set xn (g2.take h3 h4 h5) g1
end Go.Proofs.Ytehjmmedghcndaa.PG
