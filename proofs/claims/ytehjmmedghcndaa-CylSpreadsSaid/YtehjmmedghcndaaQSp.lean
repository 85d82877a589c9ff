import Derived.Test.YtehjmmedghcndaaGC
import Derived.Test.YtehjmmedghcndaaDB
import Derived.Test.YtehjmmedghcndaaDC
/-! CylSpreads, plain -/
namespace Go.Proofs.Ytehjmmedghcndaa.PG
open Go.RowKit Go.Proofs.YtehjmmedghcndaaW.PrintWords Go.Proofs.YtehjmmedghcndaaW.PrintLast Go.Proofs.YtehjmmedghcndaaW.PrintMore
theorem spreads_l1 (l x11 : List S42) (hw : WholeP l) (x2 x8 : Int) (g : Nat) (hg : dirB l = (g : Int)) (hgl : g < l.length) (c : Int) (K : Nat) (hK : selvedgelaw18_CylSpreads.l0 K x2 x11 (wrap64 (x8 + 1)) = some true) (hup : ∀ k, selvedgelaw18_CylSpreads.l0 (K + k) x2 x11 (wrap64 (x8 + 1)) = some true) :
  ∀ (q i : Nat), i + q = l.length → selvedgelaw18_CylSpreads.l1 (K + q + 1) x2 l x8 (sumI l) x11 (i : Int) (g : Int) c = some true
 | 0, i, h => by
  rw [show K + 0 + 1 = K + 1 by omega, selvedgelaw18_CylSpreads.l1, if_neg (by omega)]
  exact hK
 | q + 1, i, h => by
  have hn := hw.n1
  have hi : i < l.length := by omega
  obtain ⟨h0, h1, h2, h3⟩ := dirB_inv l
  obtain ⟨_, _, hd⟩ := least_is l hw
  have h4 := (h3 (by omega)).2 i hi hi
  rw [hg, rdT_at l g hgl] at h4
  rw [show K + (q + 1) + 1 = (K + q + 1) + 1 by omega, selvedgelaw18_CylSpreads.l1, if_pos (by omega), if_pos (by omega), w64s i (by omega), rdT_at l i hi, rdT_at l g hgl, hd, if_neg (show ¬ (l.length : Int) = 0 by omega), if_pos (show 0 ≤ (g : Int) by omega), if_pos (show (g : Int) < (l.length : Int) by omega), spreads_l1 l x11 hw x2 x8 g hg hgl c K hK hup q (i + 1) (by omega)]
  by_cases c1 : l[i].f3 ≥ 1
  ·rw [if_pos c1]
   by_cases c2 : l[i].f3 ≥ sumI l / (l.length : Int)
   ·have hT : leastS l ≤ l[i].f3 := by unfold leastS; split <;> omega
    rw [if_pos c2, if_neg (by have := h4 hT; omega)]
   ·rw [if_neg c2]
  ·rw [if_neg c1]
theorem spreads_l0 (x2 : Int) (hx2 : 0 ≤ x2 ∧ x2 ≤ 255) : ∀ (q i : Nat) (l : List S42) (k : Nat), i + q = 20 → (l = [] ∨ WholeP l) → selvedgelaw18_CylSpreads.l0 (k + 50 * q + 2100) x2 l (i : Int) = some true
 | q, i, l, k, hq, hl => by
  have live : ∀ k', selvedgelaw18_CylSpreads.j1 (k' + 1) x2 l (i : Int) false = some true := fun k' => by
   rw [selvedgelaw18_CylSpreads.j1, if_neg (by decide)]
   rfl
  rw [show k + 50 * q + 2100 = (k + 50 * q + 2099) + 1 by omega, selvedgelaw18_CylSpreads.l0, w64b hx2, Int.tmod_eq_emod_of_nonneg hx2.1]
  by_cases h1 : (i : Int) < x2 % 20
  ·obtain ⟨q, rfl⟩ : ∃ q', q = q' + 1 := ⟨q - 1, by omega⟩
   rw [if_pos h1]
   by_cases h2 : (l.length : Int) > 0
   ·have hw : WholeP l := hl.resolve_left (fun e => by subst e; simp at h2)
    have n1 := hw.n1
    obtain ⟨_, _, hd⟩ := least_is l hw
    rw [decide_eq_true h2, show k + 50 * (q + 1) + 2099 = (k + 50 * q + 143 + 2005) + 1 by omega, selvedgelaw18_CylSpreads.j1, if_pos rfl, free_is l hw, Option.bind_some, dir_is l hw, Option.bind_some]
    by_cases h3 : sumI l = 0
    ·have hb := (dirB_full hw).1 h3
     have e : dirS l = ([], 0, 0, 4) := if_pos hb
     rw [if_pos h3, e]
     rfl
    ·have hb : ¬ dirB l < 0 := fun h => h3 ((dirB_full hw).2 h)
     obtain ⟨d1, d2, g, d3, d4, d5⟩ := dir_whole hw hb
     obtain ⟨h00, h01, h02, h03⟩ := dirB_inv l
     have hq3 := (h03 (by omega)).1
     rw [d4, rdT_at l g d3] at hq3
     have hge : ¬ l[g].f3 < sumI l / (l.length : Int) := by unfold leastS at hq3; split at hq3 <;> omega
     rw [if_neg h3, if_pos d2, d5, if_neg (by omega), if_neg (by omega), if_pos (by omega), if_pos (by omega), if_neg (by omega), hd, rdT_at l g d3, decide_eq_false hge, show k + 50 * q + 143 + 2005 = (k + 50 * q + 2147) + 1 by omega, selvedgelaw18_CylSpreads.j2, if_neg (by decide)]
     have ih : ∀ t, selvedgelaw18_CylSpreads.l0 (k + 50 * q + 2146 - l.length + t) x2 (dirS l).1 (wrap64 ((i : Int) + 1)) = some true := fun t => by
      rw [w64s i (by omega), show k + 50 * q + 2146 - l.length + t = (k + 46 - l.length + t) + 50 * q + 2100 by omega]
      exact spreads_l0 x2 hx2 q (i + 1) _ _ (by omega) (.inr d1)
     have := spreads_l1 l (dirS l).1 hw x2 (i : Int) g d4 d3 (dirS l).2.2.1 (k + 50 * q + 2146 - l.length) (ih 0) ih l.length 0 (by omega)
     rw [show k + 50 * q + 2146 - l.length + l.length + 1 = k + 50 * q + 2147 by omega] at this
     exact this
   ·rw [decide_eq_false h2, show k + 50 * (q + 1) + 2099 = (k + 50 * (q + 1) + 2098) + 1 by omega]
    exact live _
  ·rw [if_neg h1, show k + 50 * q + 2099 = (k + 50 * q + 2098) + 1 by omega]
   exact live _
theorem cylSpreads_is (x0 x1 : List Int) (x2 : Int) (h0 : Bytes8 x0) (h1 : Bytes8 x1) (h2 : 0 ≤ x2 ∧ x2 ≤ 255) : selvedgelaw18_CylSpreads.f 3200 x0 x1 x2 = some true := by
 obtain ⟨L, hL, hw⟩ := made_is x0 x1 h0 h1 1984
 unfold selvedgelaw18_CylSpreads.f
 rw [hL, Option.bind_some]
 exact spreads_l0 x2 h2 20 0 L 100 rfl hw
end Go.Proofs.Ytehjmmedghcndaa.PG
