import Derived.Test.YtehjmmedghcndaaGH
import Derived.Test.YtehjmmedghcndaaDB
import Derived.Test.YtehjmmedghcndaaDG
import Derived.Test.YtehjmmedghcndaaJ47
import Derived.Test.YtehjmmedghcndaaJ43
/-! CylFound, plain -/
namespace Go.Proofs.Ytehjmmedghcndaa.PG
open Go.RowKit Go.Proofs.YtehjmmedghcndaaW.PrintWords Go.Proofs.YtehjmmedghcndaaW.PrintLast Go.Proofs.YtehjmmedghcndaaW.PrintMore
theorem first_sum {l : List S42} {x : Nat} (hx : x < l.length) (hw : WholeP l) : sumI (l.set x (firstC l[x])) = sumI l - 1 ∧ sumB (l.set x (firstC l[x])) = sumB l := by
 have hr := (hw.at_ x hx).2
 have h1 := hr.fb
 have h2 := hr.fi
 rw [sumB_set l x hx, sumI_set l x hx]
 unfold firstC
 constructor
 ·show sumI l - l[x].f3 + (16 - ((l[x].f6.length : Int) + 1)) = sumI l - 1
  omega
 ·show sumB l - l[x].f2 + (l[x].f1 - (l[x].f5.length : Int)) = sumB l
  omega
theorem first_whole {l : List S42} {x : Nat} (hx : x < l.length) (hw : WholeP l) (hz : l[x].f3 ≠ 0) : WholeP (l.set x (firstC l[x])) := by
 obtain ⟨a1, a2⟩ := hw.at_ x hx
 exact hw.set x (a2.first hz) a1
theorem sums_zero : ∀ (l : List S42), (∀ c ∈ l, RightP c) → (sumB l = 0 → ∀ c ∈ l, c.f2 = 0) ∧ (sumI l = 0 → ∀ c ∈ l, c.f3 = 0)
 | [], _ => ⟨fun _ c h => (by cases h), fun _ c h => (by cases h)⟩
 | d :: t, h => by
  obtain ⟨i1, i2⟩ := sums_zero t (fun c hc => h c (List.mem_cons_of_mem _ hc))
  obtain ⟨b1, _, b3, _⟩ := sum_bd t (fun c hc => h c (List.mem_cons_of_mem _ hc))
  have r2 := (h d (List.mem_cons_self ..)).f2b
  have r3 := (h d (List.mem_cons_self ..)).f3b
  constructor
  ·intro hs c hc
   have hs2 : d.f2 + sumB t = 0 := hs
   rcases List.mem_cons.1 hc with rfl | hc
   ·omega
   ·exact i1 (by omega) c hc
  ·intro hs c hc
   have hs2 : d.f3 + sumI t = 0 := hs
   rcases List.mem_cons.1 hc with rfl | hc
   ·omega
   ·exact i2 (by omega) c hc
theorem hash_mem {g n : Nat} {x : Int} (hn : 0 < n) (h : x ∈ hashL g n) : ∃ t : Nat, t < n ∧ x = (t : Int) := by
 unfold hashL at h
 rcases List.mem_append.1 h with h | h
 ·unfold hashR at h
  obtain ⟨t, _, rfl⟩ := List.mem_map.1 h
  exact ⟨(g + t) % n, Nat.mod_lt _ hn, rfl⟩
 ·obtain ⟨h1, h2⟩ := roundL_mem h
  obtain ⟨t, rfl⟩ := Int.eq_ofNat_of_zero_le h1
  exact ⟨t, by omega, rfl⟩
theorem file_some {l : List S42} (hw : WholeP l) {g : Int} (h0 : 0 ≤ g) (h1 : g < (l.length : Int)) (hs : 0 < sumI l) : ∃ (x : Nat) (hx : x < l.length) (m : Int), fileS l g = (l.set x (firstC l[x]), (x : Int), m, 0) ∧ l[x].f3 ≠ 0 := by
 have n0 := hw.n0
 unfold fileS
 rw [(whole_iff l).2 hw, if_neg (by decide), if_neg (by omega)]
 cases hf : (hashL g.toNat l.length).find? (fun x => (rd_T42 l x).f3 != 0) with
 | none =>
  exfalso
  have hall := List.find?_eq_none.1 hf
  have := sumI_lt 1 l (fun c hc => by
   obtain ⟨j, hj, rfl⟩ := List.mem_iff_getElem.1 hc
   have h2 := hall (j : Int) (by unfold hashL; exact List.mem_append.2 (.inr (roundL_all hj)))
   rw [rdT_at l j hj] at h2
   have h3 : l[j].f3 = 0 := by simpa using h2
   omega)
  omega
 | some x =>
  obtain ⟨t, ht, rfl⟩ := hash_mem (by omega) (List.mem_of_find?_eq_some hf)
  have h2 := List.find?_some hf
  rw [rdT_at l t ht] at h2
  refine ⟨t, ht, (mex l[t].f6 : Int), ?_, by simpa using h2⟩
  show (l.set (t : Int).toNat (firstC (rd_T42 l (t : Int))), (t : Int), (mex (rd_T42 l (t : Int)).f6 : Int), (0 : Int)) = _
  rw [Int.toNat_natCast, rdT_at l t ht]
theorem file_none {l : List S42} (hw : WholeP l) {g : Int} (h0 : 0 ≤ g) (h1 : g < (l.length : Int)) (hs : sumI l = 0) : fileS l g = ([], 0, 0, 4) := by
 have n0 := hw.n0
 unfold fileS
 rw [(whole_iff l).2 hw, if_neg (by decide), if_neg (by omega)]
 have : (hashL g.toNat l.length).find? (fun x => (rd_T42 l x).f3 != 0) = none := List.find?_eq_none.2 (fun x hx => by
  obtain ⟨t, ht, rfl⟩ := hash_mem (by omega) hx
  rw [rdT_at l t ht, (sums_zero l hw.mem).2 hs _ (List.getElem_mem ht)]
  decide)
 rw [this]
theorem dir_some {l : List S42} (hw : WholeP l) (hs : 0 < sumI l) : ∃ (x : Nat) (hx : x < l.length) (m : Int), dirS l = (l.set x (firstC l[x]), (x : Int), m, 0) ∧ l[x].f3 ≠ 0 := by
 have hd : ¬ dirB l < 0 := fun h => by
  have := (dirB_full hw).2 h
  omega
 obtain ⟨h0, h1, h2, h3⟩ := dirB_inv l
 obtain ⟨g, hg⟩ := Int.eq_ofNat_of_zero_le (show 0 ≤ dirB l by omega)
 have hgl : g < l.length := by omega
 have h4 := (h3 (by omega)).1
 have hT : 1 ≤ leastS l := by unfold leastS; split <;> omega
 refine ⟨g, hgl, (mex l[g].f6 : Int), ?_, ?_⟩
 ·unfold dirS
  rw [if_neg hd, hg, Int.toNat_natCast, rdT_at l g hgl]
 ·rw [hg, rdT_at l g hgl] at h4
  omega
theorem take_some {l : List S42} {a b : Int} (hm : mayS l a b 46 = 0) (hs : 0 < sumB l) : ∃ (xn : Nat) (hx : xn < l.length) (y : Int), takeS l a b = (l.set xn (takeC l[xn] y), (xn : Int), y, 0) ∧ 0 ≤ y ∧ y < l[xn].f1 ∧ l[xn].f5.contains y = false := by
 rcases takeS_cases l a b with ⟨h, _⟩ | ⟨_, _, h⟩ | ⟨_, h⟩
 ·exact absurd hm h
 ·have := take_none hm h
  omega
 ·exact h
theorem take_full {l : List S42} {a b : Int} (hm : mayS l a b 46 = 0) (hs : sumB l = 0) : takeS l a b = ([], 0, 0, 4) := by
 have hw := may_whole hm
 rcases takeS_cases l a b with ⟨h, _⟩ | ⟨_, h, _⟩ | ⟨_, xn, hx, y, _, h1, h2, h3⟩
 ·exact absurd hm h
 ·exact h
 ·exfalso
  have hr := (hw.at_ xn hx).2
  have h4 := (sums_zero l hw.mem).1 hs _ (List.getElem_mem hx)
  have h5 := (hr.take h1 h2 h3).f2b
  have h6 := hr.fb
  have h7 : (takeC l[xn] y).f2 = l[xn].f1 - ((l[xn].f5.length : Int) + 1) := rfl
  omega
theorem found_l1 (x1 : Int) (h1 : 0 ≤ x1 ∧ x1 ≤ 65535) (x2 : Bool) (I : Int) : ∀ (q i : Nat) (M : List S42) (a b : Int) (k : Nat), WholeP M → mayS M a b 46 = 0 → i + q ≤ 1000 → I = ((i + q : Nat) : Int) → sumB M = 0 → sumI M = (q : Int) → selvedgelaw18_CylFound.l1 (k + q + 2006) x1 x2 M I (i : Int) a b = some true
 | 0, i, M, a, b, k, hw, hm, hq, hI, hB, hS => by
  have n0 := hw.n0
  have ht : cyl_Take.f M a b = some (takeS M a b) := if_pos hw.small
  have hf : cyl_File.f M 0 = some (fileS M 0) := if_pos hw.small
  have hS0 : sumI M = 0 := by omega
  have hd : dirS M = ([], 0, 0, 4) := by unfold dirS; rw [if_pos ((dirB_full hw).1 hS0)]
  rw [show k + 0 + 2006 = (k + 2005) + 1 by omega, selvedgelaw18_CylFound.l1, if_neg (by omega), ht, Option.bind_some, hf, Option.bind_some, dir_is M hw k, Option.bind_some, free_is M hw k, Option.bind_some, take_full hm hB, file_none hw (Int.le_refl _) (by omega) hS0, hd, hB, hS0]
  show (some true).bind _ = some true
  rw [Option.bind_some, if_pos rfl, if_pos rfl, if_pos rfl, if_pos rfl, if_pos rfl, if_pos rfl, whole_is M hw.small k, (whole_iff M).2 hw, Option.bind_some, if_pos rfl]
 | q + 1, i, M, a, b, k, hw, hm, hq, hI, hB, hS => by
  have n0 := hw.n0
  have n1 := hw.n1
  have hw1 : wrap64 x1 = x1 := by unfold wrap64; omega
  have ht0 : 0 ≤ Int.tmod x1 (M.length : Int) := Int.tmod_nonneg _ h1.1
  have ht1 : Int.tmod x1 (M.length : Int) < (M.length : Int) := Int.tmod_lt_of_pos _ (by omega)
  have hf : cyl_File.f M (Int.tmod x1 (M.length : Int)) = some (fileS M (Int.tmod x1 (M.length : Int))) := if_pos hw.small
  have step : ∀ (x : Nat) (hx : x < M.length), M[x].f3 ≠ 0 → selvedgelaw18_CylFound.l1 (k + q + 2006) x1 x2 (M.set x (firstC M[x])) I (wrap64 ((i : Int) + 1)) a b = some true := fun x hx hz => by
   obtain ⟨s1, s2⟩ := first_sum hx hw
   have hw' := first_whole hx hw hz
   rw [w64s i (by omega)]
   refine found_l1 x1 h1 x2 I q (i + 1) _ a b k hw' ?_ (by omega) (by rw [hI]; congr 1; omega) (by omega) (by rw [s1]; omega)
   unfold mayS at hm ⊢
   rw [(whole_iff _).2 hw, if_neg (by decide)] at hm
   rw [(whole_iff _).2 hw', if_neg (by decide)]
   by_cases hh : a < 0 ∨ (M.length : Int) ≤ a ∨ b < 0 ∨ manyS 46 (rd_T42 M a) ≤ b
   ·rw [if_pos hh] at hm; cases hm
   ·obtain ⟨an, rfl⟩ := Int.eq_ofNat_of_zero_le (show 0 ≤ a by omega)
    have hal : an < M.length := by omega
    rw [List.length_set, if_neg]
    unfold manyS at hh ⊢
    rw [if_pos rfl] at hh ⊢
    rw [rdT_at M an hal] at hh
    rw [rdT_at _ an (by rw [List.length_set]; exact hal), List.getElem_set]
    by_cases e : x = an
    ·subst e
     rw [if_pos rfl]
     show ¬ (_ ∨ _ ∨ _ ∨ M[x].f1 ≤ b)
     exact hh
    ·rw [if_neg e]
     exact hh
  obtain ⟨xf, hxf, mf, ef, zf⟩ := file_some hw ht0 ht1 (by omega)
  obtain ⟨xd, hxd, md, ed, zd⟩ := dir_some hw (by omega)
  rw [show k + (q + 1) + 2006 = (k + q + 2006) + 1 by omega, selvedgelaw18_CylFound.l1, if_pos (by omega), if_neg (by omega), hw1, hf, Option.bind_some]
  cases x2 with
  | true =>
   rw [if_pos rfl, show k + q + 2006 = (k + q + 1) + 2005 by omega, dir_is M hw, Option.bind_some, ed]
   dsimp only
   rw [if_pos rfl, if_neg (by omega), if_neg (by omega)]
   exact step xd hxd zd
  | false =>
   rw [if_neg (by decide), ef]
   dsimp only
   rw [if_pos rfl, if_neg (by omega), if_neg (by omega)]
   exact step xf hxf zf
theorem found_l0 (x1 : Int) (h1 : 0 ≤ x1 ∧ x1 ≤ 65535) (x2 : Bool) (N : Int) (I : Nat) (hI : I ≤ 1000) : ∀ (q i : Nat) (M : List S42) (a b : Int) (k : Nat), WholeP M → mayS M a b 46 = 0 → i + q ≤ 2000 → N = ((i + q : Nat) : Int) → sumB M = (q : Int) → sumI M = (I : Int) → selvedgelaw18_CylFound.l0 (k + q + I + 2007) x1 x2 M N (I : Int) (i : Int) a b = some true
 | 0, i, M, a, b, k, hw, hm, hq, hN, hB, hS => by
  rw [show k + 0 + I + 2007 = (k + I + 2006) + 1 by omega, selvedgelaw18_CylFound.l0, if_neg (by omega)]
  exact found_l1 x1 h1 x2 (I : Int) I 0 M a b k hw hm (by omega) (by rw [Nat.zero_add]) (by omega) hS
 | q + 1, i, M, a, b, k, hw, hm, hq, hN, hB, hS => by
  have ht : cyl_Take.f M a b = some (takeS M a b) := if_pos hw.small
  obtain ⟨xn, hx, y, e, y0, y1, yc⟩ := take_some hm (by omega)
  obtain ⟨s1, s2⟩ := take_sum hx hw y
  obtain ⟨g1, g2⟩ := hw.at_ xn hx
  have hw' : WholeP (M.set xn (takeC M[xn] y)) := hw.set xn (g2.take y0 y1 yc) g1
  have hx' : xn < (M.set xn (takeC M[xn] y)).length := by rw [List.length_set]; exact hx
  rw [show k + (q + 1) + I + 2007 = (k + q + I + 2007) + 1 by omega, selvedgelaw18_CylFound.l0, if_pos (by omega), ht, Option.bind_some, e]
  dsimp only
  rw [if_pos rfl, w64s i (by omega)]
  refine found_l0 x1 h1 x2 N I hI q (i + 1) _ _ _ k hw' (may46 hw' hx' y0 ?_) (by omega) (by rw [hN]; congr 1; omega) (by rw [s1]; omega) (by rw [s2]; exact hS)
  rw [List.getElem_set, if_pos rfl]
  exact y1
theorem found_j0 (x0 : List Int) (h0 : Bytes8 x0) (x1 : Int) (h1 : 0 ≤ x1 ∧ x1 ≤ 65535) (x2 : Bool) : selvedgelaw18_CylFound.j0 6000 x0 x1 x2 = some true := by
 obtain ⟨L, e, hL⟩ := made_is x0 [] h0 (fun x h => by cases h) 4783
 rw [show 6000 = 5999 + 1 by rfl, selvedgelaw18_CylFound.j0, e, Option.bind_some]
 rcases hL with rfl | hw
 ·have hs : cyl_Spread.f 5999 [] = some 0 := by
   unfold cyl_Spread.f
   rw [show 5999 = 3994 + 2005 by rfl, whole_is [] ⟨by decide, fun c hc => by cases hc⟩]
   rfl
  rw [if_pos (show (([] : List S42).length : Int) = 0 from rfl)]
  show (some true).bind _ = some true
  rw [Option.bind_some, if_pos rfl, hs, Option.bind_some, if_pos rfl]
 ·have n0 := hw.n0
  have n1 := hw.n1
  obtain ⟨b1, b2, b3, b4⟩ := sum_bd L hw.mem
  obtain ⟨B, hB⟩ := Int.eq_ofNat_of_zero_le b1
  obtain ⟨I, hI⟩ := Int.eq_ofNat_of_zero_le b3
  have hw1 : wrap64 x1 = x1 := by unfold wrap64; omega
  have ht0 : 0 ≤ Int.tmod x1 (L.length : Int) := Int.tmod_nonneg _ h1.1
  have ht1 : Int.tmod x1 (L.length : Int) < (L.length : Int) := Int.tmod_lt_of_pos _ (by omega)
  obtain ⟨g, hg⟩ := Int.eq_ofNat_of_zero_le ht0
  have hgl : g < L.length := by omega
  have hr := (hw.at_ g hgl).2.b0
  rw [if_neg (by omega), show 5999 = 3994 + 2005 by rfl, free_is L hw, Option.bind_some, hB, hI, hw1, hg, show 3994 + 2005 = (3992 - B - I) + B + I + 2007 by omega]
  exact found_l0 x1 h1 x2 (B : Int) I (by omega) B 0 L (g : Int) 0 _ hw (may46 hw hgl (Int.le_refl _) (by omega)) (by omega) (by rw [Nat.zero_add]) hB hI
theorem cylFound_is (l : List Int) (h0 : Bytes8 l) (x1 : Int) (h1 : 0 ≤ x1 ∧ x1 ≤ 65535) (x2 : Bool) : selvedgelaw18_CylFound.f 6000 l x1 x2 = some true := by
 unfold selvedgelaw18_CylFound.f
 by_cases h : (l.length : Int) > 5
 ·rw [if_pos h, if_pos (by omega)]
  exact found_j0 _ (fun x hx => h0 x (List.mem_of_mem_take hx)) x1 h1 x2
 ·rw [if_neg h]
  exact found_j0 l h0 x1 h1 x2
end Go.Proofs.Ytehjmmedghcndaa.PG
