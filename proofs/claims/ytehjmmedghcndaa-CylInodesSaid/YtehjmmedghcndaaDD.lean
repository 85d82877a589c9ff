import Derived.Test.YtehjmmedghcndaaDC
import Derived.Test.YtehjmmedghcndaaGI
import Derived.Test.YtehjmmedghcndaaCF
/-! cyl, plain: the reference's Free, Dir, File are the program's -/
namespace Go.Proofs.Ytehjmmedghcndaa.PG
open Go.RowKit Go.Proofs.YtehjmmedghcndaaW.PrintWords Go.Proofs.YtehjmmedghcndaaW.PrintLast Go.Proofs.YtehjmmedghcndaaW.PrintMore
theorem rfree_l0 (l : List S42) (hw : WholeP l) : ∀ (q i : Nat) (a b : Int) (k : Nat), i + q = l.length → 0 ≤ a → a ≤ 64 * (i : Int) → 0 ≤ b → b ≤ 16 * (i : Int) → selvedgeref18_Free.l0 (k + q + 3005) l a b (i : Int) = some (a + sumB (l.drop i), b + sumI (l.drop i))
 | 0, i, a, b, k, h, _, _, _, _ => by
  rw [show k + 0 + 3005 = (k + 3004) + 1 by omega, selvedgeref18_Free.l0, rwhole_is l hw.small, Option.bind_some, (whole_iff l).2 hw, if_pos rfl, if_neg (by omega), List.drop_of_length_le (by omega)]
  simp [sumB, sumI]
 | q + 1, i, a, b, k, h, a0, a1, b0, b1 => by
  have hn := hw.n1
  have hi : i < l.length := by omega
  have h2 := (hw.at_ i hi).2.f2b
  have h3 := (hw.at_ i hi).2.f3b
  have e1 : wrap64 (a + l[i].f2) = a + l[i].f2 := by unfold wrap64; omega
  have e2 : wrap64 (b + l[i].f3) = b + l[i].f3 := by unfold wrap64; omega
  rw [show k + (q + 1) + 3005 = ((k + q + 1) + 3004) + 1 by omega, selvedgeref18_Free.l0, rwhole_is l hw.small, Option.bind_some, (whole_iff l).2 hw, if_pos rfl, if_pos (by omega), if_pos (by omega), rdT_at l i hi, e1, e2, w64s i (by omega), show (k + q + 1) + 3004 = k + q + 3005 by omega, rfree_l0 l hw q (i + 1) _ _ k (by omega) (by omega) (by omega) (by omega) (by omega), List.drop_eq_getElem_cons hi]
  show some (a + l[i].f2 + sumB (l.drop (i + 1)), b + l[i].f3 + sumI (l.drop (i + 1))) = some (a + (l[i].f2 + sumB (l.drop (i + 1))), b + (l[i].f3 + sumI (l.drop (i + 1))))
  rw [Int.add_assoc, Int.add_assoc]
theorem rfree_is (l : List S42) (hw : WholeP l) (k : Nat) : selvedgeref18_Free.f (k + 3030) l = some (sumB l, sumI l) := by
 have hn := hw.n1
 have h := rfree_l0 l hw l.length 0 0 0 (k + (25 - l.length)) (by omega) (by omega) (by omega) (by omega) (by omega)
 rw [List.drop_zero, Int.zero_add, Int.zero_add, show k + (25 - l.length) + l.length + 3005 = k + 3030 by omega] at h
 exact h
theorem rfirst_is (l : List S42) (hw : WholeP l) (g : Int) (h0 : 0 ≤ g) (h1 : g < (l.length : Int)) (hz : (rd_T42 l g).f3 ≠ 0) : selvedgeref18_first.f l g = some (l.set g.toNat (firstC (rd_T42 l g)), g, (mex (rd_T42 l g).f6 : Int), 0) := if_pos ⟨(whole_iff l).2 hw, h0, h1, hz⟩
theorem best_step (l : List S42) (T : Int) (i : Nat) (hi : i < l.length) (b : Int) (hb : BestI l T i b) : BestI l T (i + 1) (if T ≤ (rd_T42 l i).f3 ∧ (b < 0 ∨ (rd_T42 l i).f2 > (rd_T42 l b).f2) then (i : Int) else b) := by
 obtain ⟨h0, h1, h2, h3⟩ := hb
 rw [rdT_at l i hi]
 by_cases c1 : T ≤ l[i].f3 ∧ (b < 0 ∨ l[i].f2 > (rd_T42 l b).f2)
 ·rw [if_pos c1]
  refine ⟨by omega, by omega, fun h => by omega, fun _ => ?_⟩
  rw [rdT_at l i hi]
  refine ⟨c1.1, fun j hj hji ht => ?_⟩
  by_cases e : j = i
  ·subst e; exact Int.le_refl _
  ·rcases c1.2 with g | g
   ·have := h2 g j hj (by omega); omega
   ·by_cases gb : b < 0
    ·have := h2 gb j hj (by omega); omega
    ·have := (h3 (by omega)).2 j hj (by omega) ht; omega
 ·rw [if_neg c1]
  refine ⟨h0, by omega, fun g j hj hji => ?_, fun g => ⟨(h3 g).1, fun j hj hji ht => ?_⟩⟩
  ·by_cases e : j = i
   ·subst e; omega
   ·exact h2 g j hj (by omega)
  ·by_cases e : j = i
   ·subst e; omega
   ·exact (h3 g).2 j hj (by omega) ht
theorem rdir_l0 (l : List S42) (hw : WholeP l) : ∀ (q i : Nat) (b : Int) (k : Nat), i + q = l.length → BestI l (leastS l) i b →
  selvedgeref18_Dir.l0 (k + q + 1) l (sumI l) b (i : Int) = some (if bestR l (leastS l) q i b < 0 then ([], 0, 0, 4) else (l.set (bestR l (leastS l) q i b).toNat (firstC (rd_T42 l (bestR l (leastS l) q i b))), bestR l (leastS l) q i b, (mex (rd_T42 l (bestR l (leastS l) q i b)).f6 : Int), 0))
 | 0, i, b, k, h, hb => by
  obtain rfl : i = l.length := by omega
  have hT : 1 ≤ leastS l := by unfold leastS; split <;> omega
  rw [selvedgeref18_Dir.l0, if_neg (by omega)]
  unfold bestR
  by_cases h0 : b < 0
  ·rw [if_pos h0, if_pos h0]
  ·rw [if_neg h0, if_neg h0]
   have hq := (hb.2.2.2 (by omega)).1
   rw [rfirst_is l hw b (by omega) hb.2.1 (by omega), Option.bind_some]
 | q + 1, i, b, k, h, hb => by
  have hn := hw.n1
  have hi : i < l.length := by omega
  obtain ⟨_, hge, hd⟩ := least_is l hw
  have ih := rdir_l0 l hw q (i + 1) (if leastS l ≤ (rd_T42 l i).f3 ∧ (b < 0 ∨ (rd_T42 l i).f2 > (rd_T42 l b).f2) then (i : Int) else b) k (by omega) (best_step l _ i hi b hb)
  have hT : leastS l ≤ (rd_T42 l i).f3 ↔ (rd_T42 l i).f3 ≥ 1 ∧ (rd_T42 l i).f3 ≥ sumI l / (l.length : Int) := by unfold leastS; split <;> omega
  unfold bestR
  obtain ⟨B, hB⟩ : ∃ B, (if leastS l ≤ (rd_T42 l i).f3 ∧ (b < 0 ∨ (rd_T42 l i).f2 > (rd_T42 l b).f2) then (i : Int) else b) = B := ⟨_, rfl⟩
  rw [hB] at ih ⊢
  rw [← ih]
  rw [show k + (q + 1) + 1 = (k + q + 1) + 1 by omega, selvedgeref18_Dir.l0, if_pos (by omega), if_pos (by omega), if_neg (show ¬ (l.length : Int) = 0 by omega), hd, w64s i (by omega)]
  by_cases c1 : (rd_T42 l i).f3 ≥ 1
  ·rw [if_pos c1]
   by_cases c0 : (rd_T42 l i).f3 ≥ sumI l / (l.length : Int)
   ·rw [if_pos c0]
    have ct := hT.2 ⟨c1, c0⟩
    by_cases c2 : b < 0
    ·rw [if_pos ⟨ct, .inl c2⟩] at hB
     rw [if_pos c2, hB]
    ·have hbl := hb.2.1
     rw [if_neg c2, if_pos (by omega), if_pos (by omega)]
     by_cases c3 : (rd_T42 l i).f2 > (rd_T42 l b).f2
     ·rw [if_pos ⟨ct, .inr c3⟩] at hB
      rw [if_pos c3, hB]
     ·rw [if_neg (fun h => h.2.elim c2 c3)] at hB
      rw [if_neg c3, hB]
   ·rw [if_neg (fun h => c0 (hT.1 h.1).2)] at hB
    rw [if_neg c0, hB]
  ·rw [if_neg (fun h => c1 (hT.1 h.1).1)] at hB
   rw [if_neg c1, hB]
theorem rdir_is (l : List S42) (hw : WholeP l) (k : Nat) : selvedgeref18_Dir.f (k + 3030) l = some (dirS l) := by
 have n1 := hw.n1
 unfold selvedgeref18_Dir.f
 rw [show k + 3030 = (k + 26) + 3004 by omega, rwhole_is l hw.small, Option.bind_some, (whole_iff l).2 hw, if_pos rfl, show (k + 26) + 3004 = k + 3030 by omega, rfree_is l hw k, Option.bind_some]
 have h := rdir_l0 l hw l.length 0 (-1) (k + (3029 - l.length)) (by omega) ⟨by omega, by omega, fun _ j _ h => by omega, fun h => by omega⟩
 rw [show k + (3029 - l.length) + l.length + 1 = k + 3030 by omega] at h
 exact h
theorem rdir_no (l : List S42) (hl : SmallL l) (hw : wholeB l = false) (k : Nat) : selvedgeref18_Dir.f (k + 3030) l = some ([], 0, 0, 3) := by
 unfold selvedgeref18_Dir.f
 rw [show k + 3030 = (k + 26) + 3004 by omega, rwhole_is l hl, Option.bind_some, hw, if_neg (by decide)]
/-! ### File -/
/-- Numbers from one on, below another one. -/
def upL (n : Nat) : List Int := (List.range (n - 1)).map fun i => ((i + 1 : Nat) : Int)
theorem rfile_l0 (l : List S42) (hw : WholeP l) (g : Int) : ∀ (q i : Nat) (k : Nat), i + 1 + q = l.length → selvedgeref18_File.l0 (k + q + 1) l g ([0, 1, 3, 7, 15] ++ (List.range i).map fun t => ((t + 1 : Nat) : Int)) ((i + 1 : Nat) : Int) = selvedgeref18_File.l1 k l g ([0, 1, 3, 7, 15] ++ upL l.length) 0
 | 0, i, k, h => by
  rw [selvedgeref18_File.l0, if_neg (by omega)]
  unfold upL
  rw [show l.length - 1 = i by omega]
 | q + 1, i, k, h => by
  have n1 := hw.n1
  rw [show k + (q + 1) + 1 = (k + q + 1) + 1 by omega, selvedgeref18_File.l0, if_pos (by omega), if_pos (by simp; omega), w64s (i + 1) (by omega), List.append_assoc]
  have ih := rfile_l0 l hw g q (i + 1) k (by omega)
  rw [List.range_succ, List.map_append] at ih
  exact ih
/-- What is found on a way. -/
def foundS (l : List S42) : Option Int → List S42 × Int × Int × Int
 | none => ([], 0, 0, 4)
 | some x => (l.set x.toNat (firstC (rd_T42 l x)), x, (mex (rd_T42 l x).f6 : Int), 0)
def okW (l : List S42) (g w : Int) : Bool := decide (w ≤ (l.length : Int)) && ((rd_T42 l ((g + w) % (l.length : Int))).f3 != 0)
theorem rfile_l1 (l : List S42) (hw : WholeP l) (g : Nat) (hg : g < l.length) (W : List Int) (hW : ∀ w ∈ W, 0 ≤ w ∧ w ≤ 1000) (hWl : W.length ≤ 1000) : ∀ (q i : Nat) (k : Nat), i + q = W.length →
  selvedgeref18_File.l1 (k + q + 1) l (g : Int) W (i : Int) = some (foundS l (((W.drop i).find? (okW l (g : Int))).map fun w => ((g : Int) + w) % (l.length : Int)))
 | 0, i, k, h => by
  rw [selvedgeref18_File.l1, if_neg (by omega), List.drop_of_length_le (by omega)]
  rfl
 | q + 1, i, k, h => by
  have n1 := hw.n1
  have n0 := hw.n0
  have hi : i < W.length := by omega
  have hwb := hW W[i] (List.getElem_mem hi)
  have e1 : wrap64 ((g : Int) + W[i]) = (g : Int) + W[i] := by unfold wrap64; omega
  have hx0 : 0 ≤ ((g : Int) + W[i]) % (l.length : Int) := Int.emod_nonneg _ (by omega)
  have hx1 : ((g : Int) + W[i]) % (l.length : Int) < (l.length : Int) := Int.emod_lt_of_pos _ (by omega)
  rw [show k + (q + 1) + 1 = (k + q + 1) + 1 by omega, selvedgeref18_File.l1, if_pos (by omega), if_pos (by omega), if_neg (by omega), rd_at W i hi, e1, Int.tmod_eq_emod_of_nonneg (by omega), if_pos hx0, if_pos hx1, w64s i (by omega), rfile_l1 l hw g hg W hW hWl q (i + 1) k (by omega), List.drop_eq_getElem_cons hi, List.find?_cons]
  unfold okW
  by_cases c1 : W[i] ≤ (l.length : Int)
  ·rw [if_pos c1, decide_eq_true c1, Bool.true_and]
   obtain ⟨x, hx⟩ := Int.eq_ofNat_of_zero_le hx0
   have hxl : x < l.length := by omega
   have h3 := (hw.at_ x hxl).2.f3b
   rw [hx] at hx0 hx1 ⊢
   rw [rdT_at l x hxl]
   by_cases c2 : l[x].f3 > 0
   ·rw [if_pos c2, rfirst_is l hw _ hx0 hx1 (by rw [rdT_at l x hxl]; omega), Option.bind_some, (bne_iff_ne.2 (by omega) : (l[x].f3 != 0) = true)]
    show _ = some (foundS l (some (((g : Int) + W[i]) % (l.length : Int))))
    rw [hx]
    rfl
   ·rw [if_neg c2, show l[x].f3 = 0 by omega]
    rfl
  ·rw [if_neg c1, decide_eq_false c1]
   rfl
theorem find_map {α β : Type} (f : α → β) (p : β → Bool) : ∀ (l : List α), (l.map f).find? p = (l.find? (fun x => p (f x))).map f
 | [] => rfl
 | x :: t => by
  rw [List.map_cons, List.find?_cons, List.find?_cons]
  cases p (f x) with
  | true => rfl
  | false => exact find_map f p t
theorem find_filter {α : Type} (q p : α → Bool) : ∀ (l : List α), (l.filter q).find? p = l.find? (fun x => q x && p x)
 | [] => rfl
 | x :: t => by
  rw [List.find?_cons]
  cases hq : q x with
  | true =>
   rw [List.filter_cons_of_pos hq, List.find?_cons, Bool.true_and]
   cases p x with
   | true => rfl
   | false => exact find_filter q p t
  | false =>
   rw [List.filter_cons_of_neg (by rw [hq]; decide), Bool.false_and]
   exact find_filter q p t
theorem find_congr {α : Type} (p q : α → Bool) : ∀ (l : List α), (∀ x ∈ l, p x = q x) → l.find? p = l.find? q
 | [], _ => rfl
 | x :: t, h => by
  rw [List.find?_cons, List.find?_cons, h x (by simp), find_congr p q t (fun y hy => h y (List.mem_cons_of_mem _ hy))]
theorem hash_find (l : List S42) (hw : WholeP l) (g : Nat) (hg : g < l.length) :
  (hashL g l.length).find? (fun x => (rd_T42 l x).f3 != 0) = ((([0, 1, 3, 7, 15] ++ upL l.length) : List Int).find? (okW l (g : Int))).map fun w => ((g : Int) + w) % (l.length : Int) := by
 have n0 := hw.n0
 have n1 := hw.n1
 have cast : ∀ t : Nat, (((g + t) % l.length : Nat) : Int) = ((g : Int) + (t : Int)) % (l.length : Int) := fun t => by rw [Int.natCast_emod, Int.natCast_add]
 have e1 : (hashR g l.length 0).find? (fun x => (rd_T42 l x).f3 != 0) = (([0, 1, 3, 7, 15] : List Int).find? (okW l (g : Int))).map fun w => ((g : Int) + w) % (l.length : Int) := by
  unfold hashR
  rw [find_map, find_filter, show ([0, 1, 3, 7, 15] : List Int) = ([0, 1, 3, 7, 15] : List Nat).map (fun t : Nat => (t : Int)) from rfl, find_map, Option.map_map]
  rw [find_congr _ (fun t : Nat => okW l (g : Int) (t : Int)) _ (fun t _ => by
   unfold okW
   rw [cast t, decide_eq_true (Nat.zero_le t), Bool.true_and]
   congr 1
   rw [decide_eq_decide]; omega)]
  congr 1
 have e2 : (roundL (g + 1) l.length).find? (fun x => (rd_T42 l x).f3 != 0) = ((List.range l.length).find? (fun i => (rd_T42 l (((g : Int) + ((i + 1 : Nat) : Int)) % (l.length : Int))).f3 != 0)).map (fun i => ((g : Int) + ((i + 1 : Nat) : Int)) % (l.length : Int)) := by
  unfold roundL
  have ec : ∀ i : Nat, (((g + 1 + i) % l.length : Nat) : Int) = ((g : Int) + ((i + 1 : Nat) : Int)) % (l.length : Int) := fun i => by
   rw [show g + 1 + i = g + (i + 1) by omega]
   exact cast (i + 1)
  rw [find_map, find_congr _ (fun i : Nat => (rd_T42 l (((g : Int) + ((i + 1 : Nat) : Int)) % (l.length : Int))).f3 != 0) _ (fun i _ => by rw [ec i])]
  congr 1
  funext i
  exact ec i
 unfold hashL
 rw [List.find?_append, List.find?_append, e1]
 cases h1 : ([0, 1, 3, 7, 15] : List Int).find? (okW l (g : Int)) with
 | some w => rfl
 | none =>
  rw [Option.map_none, Option.none_or, Option.none_or, e2]
  have h0 : (rd_T42 l (g : Int)).f3 = 0 := by
   have := List.find?_eq_none.1 h1 0 (by simp)
   unfold okW at this
   rw [Int.add_zero, decide_eq_true (show (0 : Int) ≤ (l.length : Int) by omega), Bool.true_and, Int.emod_eq_of_lt (by omega) (by omega)] at this
   simpa using this
  have eN : (((g : Int) + ((l.length - 1 + 1 : Nat) : Int)) % (l.length : Int)) = (g : Int) := by
   rw [show l.length - 1 + 1 = l.length by omega, Int.add_emod_right, Int.emod_eq_of_lt (by omega) (by omega)]
  obtain ⟨n, hn⟩ : ∃ n, l.length = n + 1 := ⟨l.length - 1, by omega⟩
  have er : List.range l.length = List.range (l.length - 1) ++ [l.length - 1] := by rw [hn]; exact List.range_succ
  rw [er, List.find?_append]
  have e3 : ([l.length - 1] : List Nat).find? (fun i => (rd_T42 l (((g : Int) + ((i + 1 : Nat) : Int)) % (l.length : Int))).f3 != 0) = none := by
   rw [List.find?_eq_none]
   intro x hx
   obtain rfl := List.mem_singleton.1 hx
   rw [eN, h0]
   decide
  rw [e3, Option.or_none]
  unfold upL
  rw [find_map, Option.map_map]
  rw [find_congr (fun i : Nat => okW l (g : Int) ((i + 1 : Nat) : Int)) (fun i : Nat => (rd_T42 l (((g : Int) + ((i + 1 : Nat) : Int)) % (l.length : Int))).f3 != 0) _ (fun i hi => by
   unfold okW
   have := List.mem_range.1 hi
   rw [decide_eq_true (show ((i + 1 : Nat) : Int) ≤ (l.length : Int) by omega), Bool.true_and])]
  rfl
theorem rfile_is (l : List S42) (hl : SmallL l) (g : Int) (k : Nat) : selvedgeref18_File.f (k + 3030) l g = some (fileS l g) := by
 unfold selvedgeref18_File.f fileS
 rw [show k + 3030 = (k + 26) + 3004 by omega, rwhole_is l hl, Option.bind_some]
 cases hwb : wholeB l with
 | false => rfl
 | true =>
  have hw := (whole_iff l).1 hwb
  have n0 := hw.n0
  have n1 := hw.n1
  rw [if_pos rfl, if_neg (show ¬ (true = false) by decide)]
  by_cases h1 : g < 0
  ·rw [if_pos h1, if_pos (.inl h1)]
  ·rw [if_neg h1]
   by_cases h2 : g ≥ (l.length : Int)
   ·rw [if_pos h2, if_pos (.inr h2)]
   ·rw [if_neg h2, if_neg (by omega)]
    obtain ⟨gn, rfl⟩ := Int.eq_ofNat_of_zero_le (show 0 ≤ g by omega)
    have hgl : gn < l.length := by omega
    have h0 := rfile_l0 l hw (gn : Int) (l.length - 1) 0 (k + 3029 - (l.length - 1)) (by omega)
    rw [show k + 3029 - (l.length - 1) + (l.length - 1) + 1 = (k + 26) + 3004 by omega] at h0
    rw [show (([0, 1, 3, 7, 15] : List Int) ++ (List.range 0).map fun t => ((t + 1 : Nat) : Int)) = [0, 1, 3, 7, 15] from rfl] at h0
    have hup : ∀ w ∈ ([0, 1, 3, 7, 15] ++ upL l.length : List Int), 0 ≤ w ∧ w ≤ 1000 := by
     intro w hw_
     rcases List.mem_append.1 hw_ with h | h
     ·simp only [List.mem_cons, List.not_mem_nil, or_false] at h
      omega
     ·unfold upL at h
      obtain ⟨i, hi, rfl⟩ := List.mem_map.1 h
      have := List.mem_range.1 hi
      omega
    have hlen : ([0, 1, 3, 7, 15] ++ upL l.length : List Int).length = l.length + 4 := by
     unfold upL
     simp
     omega
    have h3 := rfile_l1 l hw gn hgl _ hup (by omega) _ 0 (k + 3028 - (l.length - 1) - (l.length + 4)) (by rw [Nat.zero_add])
    rw [hlen, show k + 3028 - (l.length - 1) - (l.length + 4) + (l.length + 4) + 1 = k + 3029 - (l.length - 1) by omega, List.drop_zero] at h3
    refine Eq.trans h0 (h3.trans ?_)
    rw [Int.toNat_natCast, hash_find l hw gn hgl]
    cases (([0, 1, 3, 7, 15] ++ upL l.length : List Int).find? (okW l (gn : Int))).map (fun w => ((gn : Int) + w) % (l.length : Int)) with
    | none => rfl
    | some x => rfl
end Go.Proofs.Ytehjmmedghcndaa.PG
