import Derived.Test.YtehjmmedghcndaaGN
import Derived.Test.YtehjmmedghcndaaDA
import Derived.Test.YtehjmmedghcndaaDB
import Derived.Test.YtehjmmedghcndaaDG
/-! The law of neighbours over what is printed: blocks that are taken one near the other stay in their group, as long as there is room. -/
namespace Go.Proofs.Ytehjmmedghcndaa.PG
open Go.RowKit Go.Proofs.YtehjmmedghcndaaW.PrintWords Go.Proofs.YtehjmmedghcndaaW.PrintLast Go.Proofs.YtehjmmedghcndaaW.PrintMore
theorem cnew_is (i n : Int) (h0 : 0 ≤ i) (h1 : i < 16) (h2 : 1 ≤ n) (h3 : n ≤ 64) (k : Nat) : cyl_New.f (k + 1003) i n = some (i, n, n, 16, 0, [], [], 0) := by
 have h := right_is ⟨i, n, n, 16, 0, [], []⟩ ⟨Nat.zero_le 1000, Nat.zero_le 1000⟩ k
 rw [(right_iff _).2 (new_right h0 h1 h2 h3)] at h
 unfold cyl_New.f
 rw [show cyl_Right.f (k + 1003) i n n 16 0 [] [] = some true from h, Option.bind_some, if_pos rfl]
def upTo (i : Nat) : List Int := (List.range i).map fun (t : Nat) => (t : Int)
theorem upTo_len (i : Nat) : (upTo i).length = i := by simp [upTo]
theorem upTo_mem (i : Nat) (x : Nat) : (upTo i).contains (x : Int) = decide (x < i) := by
 rw [Bool.eq_iff_iff, List.contains_iff_mem, decide_eq_true_iff]
 unfold upTo
 rw [List.mem_map]
 constructor
 ·rintro ⟨a, ha, e⟩
  have := List.mem_range.1 ha
  omega
 ·exact fun h => ⟨x, List.mem_range.2 h, rfl⟩
theorem upTo_succ (i : Nat) : upTo (i + 1) = upTo i ++ [(i : Int)] := by simp [upTo, List.range_succ]
theorem upTo_ix (i : Nat) : ixOf (upTo i) (i : Int) = i := by
 unfold ixOf
 rw [List.countP_eq_length.2 (fun x hx => ?_), upTo_len]
 obtain ⟨t, ht, rfl⟩ := List.mem_map.1 hx
 have := List.mem_range.1 ht
 simpa using this
theorem upTo_put (i : Nat) : putAt (upTo i) (ixOf (upTo i) (i : Int)) (i : Int) = upTo (i + 1) := by
 rw [upTo_ix, upTo_succ]
 unfold putAt
 rw [List.take_of_length_le (by rw [upTo_len]; omega), List.drop_eq_nil_of_le (by rw [upTo_len]; omega)]
/-- A group of n blocks, of which the first i are taken, one behind the other. -/
def stN (g n i : Nat) : S42 := ⟨(g : Int), (n : Int), (n : Int) - (i : Int), 16, ((i % n : Nat) : Int), upTo i, []⟩
theorem stN_right {g n : Nat} (hg : g < 16) (hn : 1 ≤ n) (hn2 : n ≤ 64) : ∀ i, i ≤ n → RightP (stN g n i)
 | 0, _ => by
  have h := new_right (i := (g : Int)) (n := (n : Int)) (by omega) (by omega) (by omega) (by omega)
  have e : stN g n 0 = ⟨(g : Int), (n : Int), (n : Int), 16, 0, [], []⟩ := by
   unfold stN
   rw [Nat.zero_mod]
   show (⟨(g : Int), (n : Int), (n : Int) - (0 : Int), 16, (0 : Int), [], []⟩ : S42) = _
   rw [Int.sub_zero]
  rw [e]
  exact h
 | i + 1, hi => by
  have h := stN_right hg hn hn2 i (by omega)
  have := h.take (b := (i : Int)) (by omega) (show (i : Int) < (n : Int) by omega) (by rw [show (stN g n i).f5 = upTo i from rfl, upTo_mem]; exact decide_eq_false (Nat.lt_irrefl i))
  have e : takeC (stN g n i) (i : Int) = stN g n (i + 1) := by
   unfold takeC
   show (⟨(g : Int), (n : Int), (n : Int) - (((upTo i).length : Int) + 1), 16 - (([] : List Int).length : Int), ((i : Int) + 1) % (n : Int), putAt (upTo i) (ixOf (upTo i) (i : Int)) (i : Int), []⟩ : S42) = _
   rw [upTo_put, upTo_len]
   unfold stN
   congr 1
  rw [← e]
  exact this
theorem stN_take {g n : Nat} (i : Nat) : takeC (stN g n i) (i : Int) = stN g n (i + 1) := by
 unfold takeC
 show (⟨(g : Int), (n : Int), (n : Int) - (((upTo i).length : Int) + 1), 16 - (([] : List Int).length : Int), ((i : Int) + 1) % (n : Int), putAt (upTo i) (ixOf (upTo i) (i : Int)) (i : Int), []⟩ : S42) = _
 rw [upTo_put, upTo_len]
 unfold stN
 congr 1
theorem roundL_one {fr n : Nat} (h : fr < n) : ∃ t, roundL fr n = (fr : Int) :: t := by
 obtain ⟨m, rfl⟩ : ∃ m, n = m + 1 := ⟨n - 1, by omega⟩
 have e : roundL fr (m + 1) = (((fr + 0) % (m + 1) : Nat) : Int) :: ((List.range m).map Nat.succ).map fun i => (((fr + i) % (m + 1) : Nat) : Int) := by
  unfold roundL
  rw [List.range_succ_eq_map, List.map_cons]
 rw [show (fr + 0) % (m + 1) = fr from Nat.mod_eq_of_lt h] at e
 exact ⟨_, e⟩
theorem roundL_two {fr n : Nat} (h : fr < n) (h2 : 2 ≤ n) : ∃ t, roundL fr n = (fr : Int) :: (((fr + 1) % n : Nat) : Int) :: t := by
 obtain ⟨m, rfl⟩ : ∃ m, n = m + 2 := ⟨n - 2, by omega⟩
 have e : roundL fr (m + 2) = (((fr + 0) % (m + 2) : Nat) : Int) :: (((fr + 1) % (m + 2) : Nat) : Int) :: (((List.range m).map Nat.succ).map Nat.succ).map fun i => (((fr + i) % (m + 2) : Nat) : Int) := by
  unfold roundL
  rw [List.range_succ_eq_map, List.range_succ_eq_map]
  rfl
 rw [show (fr + 0) % (m + 2) = fr from Nat.mod_eq_of_lt h] at e
 exact ⟨_, e⟩
theorem near_free {g n i : Nat} (hi : i < n) : freeC (stN g n i) (((i - 1 : Nat) : Nat) : Int) = some (i : Int) := by
 unfold freeC
 show (roundL (((i - 1 : Nat) : Int)).toNat ((n : Int)).toNat).find? (fun y => !(upTo i).contains y) = some (i : Int)
 rw [Int.toNat_natCast, Int.toNat_natCast]
 cases i with
 | zero =>
  obtain ⟨t, e⟩ := roundL_one (fr := 0) (n := n) hi
  rw [show 0 - 1 = 0 from rfl, e, List.find?_cons]
  rfl
 | succ j =>
  obtain ⟨t, e⟩ := roundL_two (fr := j) (n := n) (by omega) (by omega)
  rw [show j + 1 - 1 = j by omega, e, List.find?_cons, upTo_mem, decide_eq_true (show j < j + 1 by omega)]
  show List.find? _ _ = _
  rw [List.find?_cons, Nat.mod_eq_of_lt hi, upTo_mem, decide_eq_false (Nat.lt_irrefl _)]
  rfl
theorem near_full {g n : Nat} (b : Int) : freeC (stN g n n) b = none := by
 unfold freeC
 refine List.find?_eq_none.2 (fun x hx => ?_)
 have hr := roundL_mem hx
 obtain ⟨y, rfl⟩ := Int.eq_ofNat_of_zero_le hr.1
 have h1 : ((stN g n n).f1.toNat : Int) = (n : Int) := by
  show (((n : Int)).toNat : Int) = (n : Int)
  rw [Int.toNat_natCast]
 show ¬ ((!(upTo n).contains ((y : Nat) : Int)) = true)
 rw [upTo_mem, decide_eq_true (by have := hr.2; omega)]
 decide
/-- One step near the last one. -/
theorem near_step {l : List S42} (hw : WholeP l) {g : Nat} (hg : g < l.length) {n i : Nat} (hi : i < n) (hc : l[g] = stN g n i) : takeS l (g : Int) (((i - 1 : Nat) : Nat) : Int) = (l.set g (stN g n (i + 1)), (g : Int), (i : Int), 0) := by
 have hm : mayS l (g : Int) (((i - 1 : Nat) : Nat) : Int) 46 = 0 := may46 hw hg (by omega) (by rw [hc]; show ((i - 1 : Nat) : Int) < (n : Int); omega)
 unfold takeS
 rw [hm, if_neg (fun h => h rfl), Int.toNat_natCast]
 obtain ⟨t, e⟩ := roundL_one hg
 have hf : freeAt l (g : Int) (((i - 1 : Nat) : Nat) : Int) (g : Int) = some (i : Int) := by
  unfold freeAt
  rw [if_pos rfl, rdT_at l g hg, hc]
  exact near_free hi
 rw [e, List.findSome?_cons, hf]
 dsimp only [Option.map_some]
 rw [Int.toNat_natCast, rdT_at l g hg, hc, stN_take]
/-- The step behind the last room. -/
theorem near_next {l : List S42} (hw : WholeP l) {g h : Nat} (hg : g < l.length) (hl : l.length = 3) (hh : h = (g + 1) % 3) (hh2 : h < l.length) {n m : Nat} (hn : 1 ≤ n) (hm1 : 1 ≤ m) (hc : l[g] = stN g n n) (hd : l[h] = stN h m 0) : takeS l (g : Int) (((n - 1 : Nat) : Nat) : Int) = (l.set h (stN h m 1), (h : Int), 0, 0) := by
 have hm : mayS l (g : Int) (((n - 1 : Nat) : Nat) : Int) 46 = 0 := may46 hw hg (by omega) (by rw [hc]; show ((n - 1 : Nat) : Int) < (n : Int); omega)
 unfold takeS
 rw [hm, if_neg (fun h => h rfl), Int.toNat_natCast]
 obtain ⟨t, e⟩ := roundL_two (fr := g) (n := l.length) hg (by omega)
 have hf : freeAt l (g : Int) (((n - 1 : Nat) : Nat) : Int) (g : Int) = none := by
  unfold freeAt
  rw [if_pos rfl, rdT_at l g hg, hc]
  exact near_full _
 have hf2 : freeAt l (g : Int) (((n - 1 : Nat) : Nat) : Int) (h : Int) = some 0 := by
  unfold freeAt
  rw [if_neg (by omega), rdT_at l h hh2, hd]
  have := near_free (g := h) (n := m) (i := 0) (by omega)
  show freeC (stN h m 0) (((0 % m : Nat) : Nat) : Int) = some 0
  rw [Nat.zero_mod]
  exact this
 rw [e, hl, ← hh, List.findSome?_cons, hf]
 dsimp only [Option.map_none]
 rw [List.findSome?_cons, hf2]
 dsimp only [Option.map_some]
 rw [Int.toNat_natCast, rdT_at l h hh2, hd]
 exact congrArg (fun c => (l.set h c, (h : Int), (0 : Int), (0 : Int))) (stN_take (g := h) (n := m) 0)
theorem neigh_l1 {g h n m : Nat} (hh : h = (g + 1) % 3) (hg : g < 3) (hn : 1 ≤ n) (hn2 : n ≤ 64) (hm1 : 1 ≤ m) : ∀ (q i : Nat) (M : List S42) (k : Nat), WholeP M → (hl : M.length = 3) → i + q = n → M[g]'(by omega) = stN g n i → M[h]'(by omega) = stN h m 0 →
  selvedgetop_TopNeighbours.l1 (k + q + 2006) M (g : Int) (n : Int) (i : Int) (g : Int) (((i - 1 : Nat) : Nat) : Int) = some true
 | 0, i, M, k, hw, hl, hq, hc, hd => by
  obtain rfl : i = n := by omega
  have ht : cyl_Take.f M (g : Int) ((i - 1 : Nat) : Int) = some (takeS M (g : Int) ((i - 1 : Nat) : Int)) := if_pos hw.small
  have e := near_next hw (by omega) hl hh (by omega) hn hm1 hc hd
  have hw' : WholeP (M.set h (stN h m 1)) := by
   have := take_whole (l := M) (a := (g : Int)) (b := ((i - 1 : Nat) : Int)) (by rw [e])
   rw [e] at this
   exact this
  have hg1 : wrap64 ((g : Int) + 1) = ((g + 1 : Nat) : Int) := w64s g (by omega)
  have hg2 : Int.tmod ((g + 1 : Nat) : Int) 3 = (h : Int) := by
   rw [Int.tmod_eq_emod_of_nonneg (by omega)]
   omega
  rw [show k + 0 + 2006 = (k + 2005) + 1 by omega, selvedgetop_TopNeighbours.l1, if_neg (by omega), ht, Option.bind_some, e]
  dsimp only
  rw [if_pos rfl, hg1, hg2, if_pos rfl, whole_is _ hw'.small k, (whole_iff _).2 hw', Option.bind_some, if_pos rfl, if_pos (by omega), if_pos (by omega), rdT_at M g (by omega), hc]
  rw [if_pos (show (stN g i i).f2 = 0 from by show (i : Int) - (i : Int) = 0; omega)]
 | q + 1, i, M, k, hw, hl, hq, hc, hd => by
  have ht : cyl_Take.f M (g : Int) ((i - 1 : Nat) : Int) = some (takeS M (g : Int) ((i - 1 : Nat) : Int)) := if_pos hw.small
  have e := near_step hw (g := g) (by omega) (n := n) (i := i) (by omega) hc
  have hw' : WholeP (M.set g (stN g n (i + 1))) := hw.set g (stN_right (by omega) hn hn2 (i + 1) (by omega)) rfl
  rw [show k + (q + 1) + 2006 = (k + q + 2006) + 1 by omega, selvedgetop_TopNeighbours.l1, if_pos (by omega), ht, Option.bind_some, e]
  dsimp only
  rw [if_pos rfl, if_pos rfl, if_pos rfl, w64s i (by omega)]
  refine neigh_l1 hh hg hn hn2 hm1 q (i + 1) (M.set g (stN g n (i + 1))) k hw' (by rw [List.length_set]; exact hl) (by omega) (by rw [List.getElem_set, if_pos rfl]) ?_
  rw [List.getElem_set, if_neg (by omega)]
  exact hd
theorem stN_zero (g n : Nat) : (⟨(g : Int), (n : Int), (n : Int), 16, 0, [], []⟩ : S42) = stN g n 0 := by
 unfold stN
 rw [Nat.zero_mod]
 show _ = (⟨(g : Int), (n : Int), (n : Int) - (0 : Int), 16, (0 : Int), [], []⟩ : S42)
 rw [Int.sub_zero]
theorem topNeighbours_is (a0 a1 a2 b : Int) (h0 : 0 ≤ a0 ∧ a0 ≤ 255) (h1 : 0 ≤ a1 ∧ a1 ≤ 255) (h2 : 0 ≤ a2 ∧ a2 ≤ 255) (hb : 0 ≤ b ∧ b ≤ 255) : selvedgetop_TopNeighbours.f 3200 a0 a1 a2 b = some true := by
 have sz : ∀ a : Int, 0 ≤ a ∧ a ≤ 255 → ∃ n : Nat, 1 ≤ n ∧ n ≤ 64 ∧ wrap64 (Int.tmod (wrap64 a) 30 + 1) = (n : Int) := fun a ha => by
  have e1 : wrap64 a = a := by unfold wrap64; omega
  rw [e1, Int.tmod_eq_emod_of_nonneg ha.1]
  have e2 : wrap64 (a % 30 + 1) = a % 30 + 1 := by unfold wrap64; omega
  exact ⟨(a % 30 + 1).toNat, by omega, by omega, by omega⟩
 obtain ⟨n0, p0, q0, e0⟩ := sz a0 h0
 obtain ⟨n1, p1, q1, e1⟩ := sz a1 h1
 obtain ⟨n2, p2, q2, e2⟩ := sz a2 h2
 have hb1 : wrap64 b = b := by unfold wrap64; omega
 obtain ⟨g, hg, eg⟩ : ∃ g : Nat, g < 3 ∧ Int.tmod (wrap64 b) 3 = (g : Int) := by
  rw [hb1, Int.tmod_eq_emod_of_nonneg hb.1]
  exact ⟨(b % 3).toNat, by omega, by omega⟩
 have w1 : wrap64 ((0 : Int) + 1) = 1 := by unfold wrap64; omega
 have w2 : wrap64 ((1 : Int) + 1) = 2 := by unfold wrap64; omega
 have w3 : wrap64 ((2 : Int) + 1) = 3 := by unfold wrap64; omega
 unfold selvedgetop_TopNeighbours.f
 rw [show (3200 : Nat) = 3199 + 1 from rfl, selvedgetop_TopNeighbours.l0, if_pos (by decide), if_pos rfl, e0, show (3199 : Nat) = 2196 + 1003 from rfl, cnew_is 0 (n0 : Int) (by omega) (by omega) (by omega) (by omega), Option.bind_some]
 dsimp only
 rw [if_pos rfl, if_pos (by decide), w1, show (2196 + 1003 : Nat) = 3198 + 1 from rfl, selvedgetop_TopNeighbours.l0, if_pos (by decide), if_neg (by decide), if_pos rfl, e1, show (3198 : Nat) = 2195 + 1003 from rfl, cnew_is 1 (n1 : Int) (by omega) (by omega) (by omega) (by omega), Option.bind_some]
 dsimp only
 rw [if_pos rfl, if_pos (by simp), w2, show (2195 + 1003 : Nat) = 3197 + 1 from rfl, selvedgetop_TopNeighbours.l0, if_pos (by decide), if_neg (by decide), if_neg (by decide), if_pos rfl, e2, show (3197 : Nat) = 2194 + 1003 from rfl, cnew_is 2 (n2 : Int) (by omega) (by omega) (by omega) (by omega), Option.bind_some]
 dsimp only
 rw [if_pos rfl, if_pos (by simp), w3, show (2194 + 1003 : Nat) = 3196 + 1 from rfl, selvedgetop_TopNeighbours.l0, if_neg (by decide), eg]
 have z0 := stN_zero 0 n0
 have z1 := stN_zero 1 n1
 have z2 := stN_zero 2 n2
 have eL : (([] : List S42) ++ [(⟨0, (n0 : Int), (n0 : Int), 16, 0, [], []⟩ : S42)] ++ [(⟨1, (n1 : Int), (n1 : Int), 16, 0, [], []⟩ : S42)] ++ [(⟨2, (n2 : Int), (n2 : Int), 16, 0, [], []⟩ : S42)]) = [stN 0 n0 0, stN 1 n1 0, stN 2 n2 0] := by
  rw [← z0, ← z1, ← z2]
  rfl
 rw [eL]
 have hw : WholeP [stN 0 n0 0, stN 1 n1 0, stN 2 n2 0] := ⟨by show 1 ≤ 3; decide, by show 3 ≤ 16; decide, fun j hj => by
  match j, hj with
  | 0, _ => exact ⟨rfl, stN_right (by decide) p0 q0 0 (Nat.zero_le _)⟩
  | 1, _ => exact ⟨rfl, stN_right (by decide) p1 q1 0 (Nat.zero_le _)⟩
  | 2, _ => exact ⟨rfl, stN_right (by decide) p2 q2 0 (Nat.zero_le _)⟩
  | j + 3, hj => exact absurd hj (by show ¬ (j + 3 < 3); omega)⟩
 rw [if_pos (by omega), if_pos (by show (g : Int) < 3; omega), rdT_at [stN 0 n0 0, stN 1 n1 0, stN 2 n2 0] g (show g < 3 from hg)]
 match g, hg with
 | 0, _ =>
  show selvedgetop_TopNeighbours.l1 3196 [stN 0 n0 0, stN 1 n1 0, stN 2 n2 0] ((0 : Nat) : Int) (n0 : Int) ((0 : Nat) : Int) ((0 : Nat) : Int) (((0 - 1 : Nat) : Nat) : Int) = some true
  rw [show 3196 = (1190 - n0) + n0 + 2006 by omega]
  exact neigh_l1 (g := 0) (h := 1) (m := n1) rfl (by decide) p0 q0 p1 n0 0 _ _ hw rfl (by omega) rfl rfl
 | 1, _ =>
  show selvedgetop_TopNeighbours.l1 3196 [stN 0 n0 0, stN 1 n1 0, stN 2 n2 0] ((1 : Nat) : Int) (n1 : Int) ((0 : Nat) : Int) ((1 : Nat) : Int) (((0 - 1 : Nat) : Nat) : Int) = some true
  rw [show 3196 = (1190 - n1) + n1 + 2006 by omega]
  exact neigh_l1 (g := 1) (h := 2) (m := n2) rfl (by decide) p1 q1 p2 n1 0 _ _ hw rfl (by omega) rfl rfl
 | 2, _ =>
  show selvedgetop_TopNeighbours.l1 3196 [stN 0 n0 0, stN 1 n1 0, stN 2 n2 0] ((2 : Nat) : Int) (n2 : Int) ((0 : Nat) : Int) ((2 : Nat) : Int) (((0 - 1 : Nat) : Nat) : Int) = some true
  rw [show 3196 = (1190 - n2) + n2 + 2006 by omega]
  exact neigh_l1 (g := 2) (h := 0) (m := n0) rfl (by decide) p2 q2 p0 n2 0 _ _ hw rfl (by omega) rfl rfl
end Go.Proofs.Ytehjmmedghcndaa.PG
