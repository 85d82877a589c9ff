import Derived.Test.YthembklejaabiaaB2
import Derived.Test.YthembklejaabiaaPGx4
/-! Plain laws of the sweeps. -/
namespace Go.Proofs.Ythembklejaabiaa.Pure
open Go.RowKit Go.Proofs.Ythembklejaabiaa.PL
open Go.Proofs.Ythembklejaabiaa.PG Go.Proofs.YthembklejaabiaaW.PrintWords Go.Proofs.YthembklejaabiaaW.PrintLast Go.Proofs.YthembklejaabiaaW.PrintMore
theorem nx_range (p a : Int) : ∀ (l : List Int) (i : Nat) (s : Int × Int) (B : Int), 0 ≤ s.1 → s.1 < B → (i : Int) + l.length ≤ B → 0 ≤ (nx p a l i s).1 ∧ (nx p a l i s).1 < B := by
  intro l
  induction l with
  | nil => intro i s B h0 h1 _; exact ⟨h0, h1⟩
  | cons b t ih =>
    intro i s B h0 h1 h2
    simp only [List.length_cons] at h2
    simp only [nx]
    split
    · exact ih (i + 1) _ B (by simp) (by simp; omega) (by omega)
    · exact ih (i + 1) _ B h0 h1 (by omega)
/-- Which one is nearest. -/
def ni (p a : Int) (l : List Int) : Nat := (nx p a l 0 (0, 9223372036854775807)).1.toNat
theorem ni_lt (p a : Int) (l : List Int) (h : 0 < l.length) : (nx p a l 0 (0, 9223372036854775807)).1 = (ni p a l : Int) ∧ ni p a l < l.length := by
  have := nx_range p a l 0 (0, 9223372036854775807) l.length (by simp) (by simp; omega) (by simp)
  unfold ni
  omega
/-- All, the nearest first each time. -/
def sw (p : Int) : Nat → Int → List Int → List Int
  | 0, _, _ => []
  | n + 1, a, l => l.getD (ni p a l) 0 :: sw p n (l.getD (ni p a l) 0) (l.eraseIdx (ni p a l))
theorem getD_at (l : List Int) (i : Nat) (h : i < l.length) : l.getD i 0 = l[i] := by rw [List.getD_eq_getElem?_getD, List.getElem?_eq_getElem h, Option.getD_some]
theorem Bls.erase {l : List Int} (h : Bls l) (i : Nat) : Bls (l.eraseIdx i) := fun b hb => h b (List.mem_of_mem_eraseIdx hb)
theorem erase_perm : ∀ (l : List Int) (k : Nat) (h : k < l.length), (l[k] :: l.eraseIdx k).Perm l := by
  intro l
  induction l with
  | nil => intro k h; simp at h
  | cons b t ih =>
    intro k h
    cases k with
    | zero => simp
    | succ k =>
      rw [List.eraseIdx_cons_succ, List.getElem_cons_succ]
      exact (List.Perm.swap _ _ _).trans ((ih k (by simpa using h)).cons b)
theorem sw_perm (p : Int) : ∀ (n : Nat) (a : Int) (l : List Int), l.length = n → (sw p n a l).Perm l := by
  intro n
  induction n with
  | zero => intro a l h; rw [List.eq_nil_of_length_eq_zero h]; exact List.Perm.refl _
  | succ n ih =>
    intro a l h
    have hk := (ni_lt p a l (by omega)).2
    simp only [sw]
    have h1 := ih (l.getD (ni p a l) 0) (l.eraseIdx (ni p a l)) (by rw [List.length_eraseIdx_of_lt hk]; omega)
    refine (List.Perm.cons _ h1).trans ?_
    rw [getD_at _ _ hk]
    exact erase_perm l _ hk
theorem sw_len (p : Int) (n : Nat) (a : Int) (l : List Int) (h : l.length = n) : (sw p n a l).length = n := by rw [(sw_perm p n a l h).length_eq, h]
theorem Next_is {a p : Int} {l : List Int} (ha : Bl a) (hp : Tr p) (hl : Bls l) (h0 : 0 < l.length) (hn : l.length < 100000) : PG.place_Next.f a l p = some ((ni p a l : Int), true) := by
  unfold PG.place_Next.f PL.place_Next.f
  rw [if_pos (by omega), if_pos ⟨by omega, mayB_one ha hp, (mayB_iff p l).2 ⟨hp, hl⟩⟩, (ni_lt p a l h0).1]
theorem erase_split (l : List Int) (k : Nat) : l.take k ++ l.drop (k + 1) = l.eraseIdx k := (List.eraseIdx_eq_take_drop_succ l k).symm
theorem Delete_is (l : List Int) (k : Nat) (h : k < l.length) (hn : l.length < 100000) : slices_Delete_int_int.f l (k : Int) (wrap64 ((k : Int) + 1)) = some (l.eraseIdx k) := by
  unfold slices_Delete_int_int.f
  rw [w64 (by omega) (by omega), if_pos (by omega), Int.toNat_natCast, show ((k : Int) + 1).toNat = k + 1 by omega, erase_split]
theorem sweep_loop {p : Int} (hp : Tr p) : ∀ (n : Nat) (a : Int) (l out : List Int) (k : Nat), l.length = n → n < k → Bl a → Bls l → out.length + n < 100000 → place_Sweep.l0 k a p l out = some (out ++ sw p n a l, 0) := by
  intro n
  induction n with
  | zero =>
    intro a l out k h hk ha hl ho
    obtain ⟨k, rfl⟩ : ∃ m, k = m + 1 := ⟨k - 1, by omega⟩
    simp only [place_Sweep.l0]
    rw [if_neg (by omega)]
    simp [sw]
  | succ n ih =>
    intro a l out k h hk ha hl ho
    obtain ⟨k, rfl⟩ : ∃ m, k = m + 1 := ⟨k - 1, by omega⟩
    have hn := (ni_lt p a l (by omega)).2
    simp only [place_Sweep.l0]
    rw [if_pos (by omega), Next_is ha hp hl (by omega) (by omega), Option.bind_some, if_pos (by omega), if_pos (by omega), if_pos (by omega), Delete_is _ _ hn (by omega), Option.bind_some, rd_at _ _ hn,
      ih l[ni p a l] _ _ k (by rw [List.length_eraseIdx_of_lt hn]; omega) (by omega) (hl.at_ _ hn) (hl.erase _) (by simp; omega)]
    simp only [sw, getD_at _ _ hn]
    simp
theorem left_loop (p : Int) (x8 l : List Int) (at' : Int) (j : Nat) (hn : l.length < 100000) : ∀ (d i k : Nat) (left : List Int), i + d = l.length → left.length ≤ i →
    selvedgeref01_Sweep.l1 (k + d + 1) p x8 l at' (j : Int) left (i : Int) = selvedgeref01_Sweep.l0 k p x8 (left ++ (if j < i then l.drop i else (l.drop i).eraseIdx (j - i))) at' := by
  intro d
  induction d with
  | zero =>
    intro i k left hi hl
    simp only [selvedgeref01_Sweep.l1]
    rw [if_neg (by omega), List.drop_eq_nil_of_le (by omega)]
    simp
  | succ d ih =>
    intro i k left hi hl
    have hlt : i < l.length := by omega
    obtain ⟨K, hK⟩ : ∃ K, k + d + 1 = K := ⟨_, rfl⟩
    have ih2 := fun left h1 h2 => ih (i + 1) k left h1 h2
    rw [hK] at ih2
    rw [show k + (d + 1) + 1 = K + 1 by omega]
    simp only [selvedgeref01_Sweep.l1]
    rw [if_pos (by omega), w64 (by omega) (by omega), show ((i : Int) + 1) = ((i + 1 : Nat) : Int) by omega]
    have hd : l.drop i = l[i] :: l.drop (i + 1) := List.drop_eq_getElem_cons hlt
    by_cases h : (i : Int) = (j : Int)
    · rw [if_pos h, ih2 left (by omega) (by omega), if_pos (by omega), if_neg (by omega), hd, show j - i = 0 by omega]
      simp
    · rw [if_neg h, if_pos (by omega), if_pos (by omega), rd_at _ _ hlt, ih2 _ (by omega) (by simp; omega)]
      by_cases h2 : j < i
      · rw [if_pos (by omega), if_pos h2, hd]
        simp
      · rw [if_neg (by omega), if_neg h2, hd, show j - i = (j - (i + 1)) + 1 by omega, List.eraseIdx_cons_succ]
        simp
theorem refSweep_loop {p : Int} (hp : Tr p) : ∀ (n : Nat) (a : Int) (l out : List Int) (k : Nat), l.length = n → n ≤ 120 → 150 + 130 * n ≤ k → Bl a → Bls l → out.length + n < 100000 → selvedgeref01_Sweep.l0 k p out l a = some (out ++ sw p n a l, 0) := by
  intro n
  induction n with
  | zero =>
    intro a l out k h _ hk ha hl ho
    obtain ⟨k, rfl⟩ : ∃ m, k = m + 1 := ⟨k - 1, by omega⟩
    simp only [selvedgeref01_Sweep.l0]
    rw [if_neg (by omega)]
    simp [sw]
  | succ n ih =>
    intro a l out k h hn4 hk ha hl ho
    obtain ⟨k, rfl⟩ : ∃ m, k = (m + l.length + 1) + 1 := ⟨k - l.length - 2, by omega⟩
    have hn := (ni_lt p a l (by omega)).2
    simp only [selvedgeref01_Sweep.l0]
    rw [if_pos (by omega), refNext_is a p l (by omega) _ (by omega), Next_is ha hp hl (by omega) (by omega), Option.bind_some, if_pos (by omega), if_pos (by omega), if_pos (by omega), rd_at _ _ hn]
    have := left_loop p (out ++ [l[ni p a l]]) l l[ni p a l] (ni p a l) (by omega) l.length 0 k [] (by omega) (by simp)
    rw [show ((0 : Nat) : Int) = 0 from rfl] at this
    simp only []
    rw [this, if_neg (by omega), List.drop_zero, Nat.sub_zero, List.nil_append,
      ih l[ni p a l] _ _ k (by rw [List.length_eraseIdx_of_lt hn]; omega) (by omega) (by omega) (hl.at_ _ hn) (hl.erase _) (by simp; omega)]
    simp only [sw, getD_at _ _ hn]
    simp
/-- What a sweep answers. -/
def swF (p a : Int) (l : List Int) : List Int × Int := if mayB p [a] = true ∧ mayB p l = true then (sw p l.length a l, 0) else ([], 2)
theorem Sweep_is (a p : Int) (l : List Int) (hn : l.length < 1000) (k : Nat) (hk : l.length + 1 < k) : place_Sweep.f k a l p = some (swF p a l) := by
  obtain ⟨k, rfl⟩ : ∃ m, k = m + 1 := ⟨k - 1, by omega⟩
  have m1 : place_may.f p [a] = some (mayB p [a]) := by unfold place_may.f; rw [if_pos (by simp)]
  have m2 : place_may.f p l = some (mayB p l) := by unfold place_may.f; rw [if_pos (by omega)]
  unfold place_Sweep.f swF
  rw [m1, Option.bind_some]
  cases h1 : mayB p [a] with
  | false =>
    rw [if_neg (by decide), if_neg (by simp)]
    simp [place_Sweep.j0]
  | true =>
    rw [if_pos rfl, m2, Option.bind_some]
    cases h2 : mayB p l with
    | false =>
      rw [if_neg (by simp)]
      simp [place_Sweep.j0]
    | true =>
      rw [if_pos ⟨rfl, rfl⟩]
      simp only [place_Sweep.j0]
      have e1 := (mayB_iff p [a]).1 h1
      have e2 := (mayB_iff p l).1 h2
      have hc : slices_Clone_int_int.f l = some l := by unfold slices_Clone_int_int.f PL.slices_Clone___int_int.f; rw [if_pos (by omega)]
      rw [if_neg (show ¬ ((!true) = true) by decide), hc, Option.bind_some, if_pos (by omega), if_pos (by omega)]
      rw [show (List.replicate 0 (0 : Int)) = [] from rfl, sweep_loop e1.1 l.length a l [] k rfl (by omega) (e1.2 a (by simp)) e2.2 (by simp; omega)]
      simp
theorem refSweep_is (a p : Int) (l : List Int) (hn : l.length ≤ 120) (k : Nat) (hk : 150 + 130 * l.length ≤ k) : selvedgeref01_Sweep.f k a l p = some (swF p a l) := by
  unfold selvedgeref01_Sweep.f swF
  rw [fits_is a l p (by omega) k (by omega), Option.bind_some]
  by_cases h : mayB p [a] = true ∧ mayB p l = true
  · rw [if_pos h, if_pos ((fits_may p a l).2 h)]
    have h1 := (mayB_iff p [a]).1 h.1
    have h2 := (mayB_iff p l).1 h.2
    rw [refSweep_loop h1.1 l.length a l [] k rfl hn hk (h1.2 a (by simp)) h2.2 (by simp; omega)]
    simp
  · rw [if_neg h, if_neg (fun h' => h ((fits_may p a l).1 h'))]
theorem same_loop (l : List Int) (hn : l.length < 100000) : ∀ (d i k : Nat), i + d = l.length → d < k → selvedgeref01_Same.l0 k l l (i : Int) = some true := by
  intro d
  induction d with
  | zero =>
    intro i k hi hk
    obtain ⟨k, rfl⟩ : ∃ m, k = m + 1 := ⟨k - 1, by omega⟩
    simp only [selvedgeref01_Same.l0]
    rw [if_neg (by omega)]
  | succ d ih =>
    intro i k hi hk
    obtain ⟨k, rfl⟩ : ∃ m, k = m + 1 := ⟨k - 1, by omega⟩
    simp only [selvedgeref01_Same.l0]
    rw [if_pos (by omega), if_pos (by omega), if_pos (by omega)]
    simp only [if_true]
    rw [w64 (by omega) (by omega), show ((i : Int) + 1) = ((i + 1 : Nat) : Int) by omega]
    exact ih (i + 1) k (by omega) (by omega)
theorem Same_self (l : List Int) (hn : l.length < 100000) (k : Nat) (hk : l.length < k) : selvedgeref01_Same.f k l l = some true := by
  unfold selvedgeref01_Same.f
  rw [if_pos rfl]
  exact same_loop l hn l.length 0 k (by omega) hk
theorem swF_len (p a : Int) (l : List Int) : (swF p a l).1.length ≤ l.length := by
  unfold swF
  split
  · rw [sw_len p l.length a l rfl]; exact Nat.le_refl _
  · simp
end Go.Proofs.Ythembklejaabiaa.Pure
