import Derived.Test.YtfbjeiloefocgaaAO
/-! Blocks, each once. -/
namespace Go.Proofs.Ytfbjeiloefocgaa.CC
open Go.RowKit Go.Proofs.Ytfbjeiloefocgaa.Fl Go.Proofs.Ytfbjeiloefocgaa.PL Go.Proofs.Ytfbjeiloefocgaa.PG Go.Proofs.YtfbjeiloefocgaaW.PrintWords Go.Proofs.YtfbjeiloefocgaaW.PrintLast Go.Proofs.YtfbjeiloefocgaaW.PrintMore
attribute [local go_sem] Oper.semAt_some

theorem at_u16 {w : World} {A : Option Addr} {xs : List Int} (h : Kd.C (Kd.int .u16) w A xs.length xs) (i : Nat) (h1 : i < xs.length) : ∃ ad, A = some ad ∧ w.cell? (ad.add i) = some (.int .u16 xs[i]) := by
  obtain ⟨ad, c, e, hs, hK, hc0⟩ := Kd.C_get h 0 (i : Int) (by omega) (by omega)
  have eg : xs.getD (i : Int).toNat 0 = xs[i] := by rw [Int.toNat_natCast, List.getD_eq_getElem?_getD, List.getElem?_eq_getElem h1, Option.getD_some]
  rw [eg] at hK
  have hK : c = [.int .u16 xs[i]] := hK
  subst hK
  have := hc0 0 _ rfl
  rw [Int.toNat_natCast] at this
  simp only [show (Kd.int .u16).sz = 1 from rfl, Nat.mul_one, Nat.add_zero] at this
  exact ⟨ad, e, this⟩
/-- Blocks out of numbers, each once. -/
def dd (m : Int) : List Int → List Int → List Int
  | [], D => D
  | y :: t, D => dd m t (if D.contains (y % m) = true then D else D ++ [y % m])
theorem contains_snoc (l : List Int) (x c : Int) : (l ++ [x]).contains c = (l.contains c || x == c) := by
  rw [Bool.eq_iff_iff]
  simp only [List.contains_iff_mem, List.mem_append, List.mem_singleton, Bool.or_eq_true, beq_iff_eq]
  constructor
  · rintro (h | h)
    · exact .inl h
    · exact .inr h.symm
  · rintro (h | h)
    · exact .inl h
    · exact .inr h.symm
theorem dd_snoc (m : Int) : ∀ (l : List Int) (y : Int) (D : List Int), dd m (l ++ [y]) D = if (dd m l D).contains (y % m) = true then dd m l D else dd m l D ++ [y % m]
  | [], _, _ => rfl
  | x :: t, y, D => by rw [List.cons_append, dd, dd, dd_snoc m t]
theorem dd_len (m : Int) : ∀ (l D : List Int), (dd m l D).length ≤ D.length + l.length
  | [], D => Nat.le_refl _
  | y :: t, D => by
    unfold dd
    rw [List.length_cons]
    by_cases hc : D.contains (y % m) = true
    · rw [if_pos hc]
      have := dd_len m t D
      omega
    · rw [if_neg hc]
      have := dd_len m t (D ++ [y % m])
      rw [List.length_append, List.length_singleton] at this
      omega
theorem dd_nodup (m : Int) : ∀ (l D : List Int), D.Nodup → (dd m l D).Nodup
  | [], D, h => h
  | y :: t, D, h => by
    unfold dd
    by_cases hc : D.contains (y % m) = true
    · rw [if_pos hc]; exact dd_nodup m t D h
    · rw [if_neg hc]
      refine dd_nodup m t _ ?_
      rw [List.nodup_append]
      refine ⟨h, by simp, fun a ha c hc2 e => ?_⟩
      obtain rfl := List.mem_singleton.1 hc2
      subst e
      exact hc (List.contains_iff_mem.2 ha)
theorem dd_range (m : Int) (hm : 0 < m) : ∀ (l D : List Int), (∀ b ∈ D, 0 ≤ b ∧ b < m) → ∀ b ∈ dd m l D, 0 ≤ b ∧ b < m
  | [], D, h => h
  | y :: t, D, h => by
    unfold dd
    by_cases hc : D.contains (y % m) = true
    · rw [if_pos hc]; exact dd_range m hm t D h
    · rw [if_neg hc]
      refine dd_range m hm t _ (fun b hb => ?_)
      rcases List.mem_append.1 hb with hb | hb
      · exact h b hb
      · obtain rfl := List.mem_singleton.1 hb
        exact ⟨Int.emod_nonneg _ (by omega), Int.emod_lt_of_pos _ hm⟩
theorem new_yng (E : List Int) (h : E.length ≤ 12) : Yng (E.map (fun b => (⟨b, 0⟩ : S77))) := fun x hx => by
  obtain ⟨b, -, rfl⟩ := List.mem_map.1 hx
  rw [List.length_map]
  show (0 : Int) + _ ≤ 12
  omega
theorem new_blocks (E : List Int) : (E.map (fun b => (⟨b, 0⟩ : S77))).map (·.f0) = E := by
  rw [List.map_map]
  exact List.map_id E
theorem all_is {p per f : Int} {E : List Int} (h : okAll p per f) (hn : E.Nodup) (hb : ∀ b ∈ E, Bl b) (hl : E.length ≤ 24) : allA p per f E = ((runN E.length (allS p per f) (E.map (fun b => (⟨b, 0⟩ : S77)))).1, (runN E.length (allS p per f) (E.map (fun b => (⟨b, 0⟩ : S77)))).2.mv, 0) := by
  unfold allA
  rw [if_pos h, askAll_new E [] hb (by simpa using hn) (by simpa using hl)]
  simp
theorem all_inv {p per f : Int} {E : List Int} (h : okAll p per f) (hn : E.Nodup) (hb : ∀ b ∈ E, Bl b) (hl : E.length ≤ 24) : Inv 0 (allS p per f) (E.map (fun b => (⟨b, 0⟩ : S77))) := by
  have hi := inv_askAll E [] _ (inv_new p per ⟨h.1, h.2.1, h.2.2.1, h.2.2.2.1⟩) (askAll_new E [] hb (by simpa using hn) (by simpa using hl))
  exact ⟨hi.pol, hi.per, h.2.2.2.2, hi.len, hi.nd, hi.bl, hi.age, hi.mv⟩
/-- How often it turns, of the first steps. -/
def tcnt (f : Int) (O : List Int) : Nat → Nat
  | 0 => 0
  | i + 1 => tcnt f O i + (if i = 0 then (if ¬ O.getD 0 0 < O.getD 1 0 ∧ f ≤ O.getD 0 0 then 1 else 0) else (if decide (O.getD i 0 < O.getD (i + 1) 0) = decide (O.getD (i - 1) 0 < O.getD i 0) then 0 else 1))
theorem tcnt_le (f : Int) (O : List Int) : ∀ i, tcnt f O i ≤ i
  | 0 => Nat.le_refl _
  | i + 1 => by
    unfold tcnt
    have := tcnt_le f O i
    split <;> split <;> omega
/-- The turns of a rest, step by step. -/
def tsum (up : Bool) (q : Int) (O : List Int) : Nat → Nat
  | 0 => 0
  | i + 1 => match O with | [] => 0 | y :: t => (if decide (q < y) = up then 0 else 1) + tsum (decide (q < y)) y t i
theorem tsum_all : ∀ (O : List Int) (up : Bool) (q : Int), tsum up q O O.length = trn up q O
  | [], _, _ => rfl
  | y :: t, up, q => by
    rw [List.length_cons]
    show (if decide (q < y) = up then 0 else 1) + tsum (decide (q < y)) y t t.length = (if decide (q < y) = up then 0 else 1) + trn (decide (q < y)) y t
    rw [tsum_all t]
theorem tsum_step : ∀ (i : Nat) (O : List Int) (up : Bool) (q : Int), i < O.length → tsum up q O (i + 1) = tsum up q O i + (if decide ((q :: O).getD i 0 < O.getD i 0) = (if i = 0 then up else decide ((q :: O).getD (i - 1) 0 < (q :: O).getD i 0)) then 0 else 1)
  | 0, y :: t, up, q, h => by
    unfold tsum
    simp [tsum]
  | i + 1, y :: t, up, q, h => by
    rw [List.length_cons] at h
    have ih := tsum_step i t (decide (q < y)) y (by omega)
    show (if decide (q < y) = up then 0 else 1) + tsum (decide (q < y)) y t (i + 1) = (if decide (q < y) = up then 0 else 1) + tsum (decide (q < y)) y t i + _
    rw [ih, Nat.add_assoc]
    congr 2
    cases i with
    | zero => simp
    | succ j => simp
  | i, [], up, q, h => by simp at h
theorem tcnt_turns (f : Int) (x y : Int) (t : List Int) : ∀ i, i ≤ t.length → tcnt f (x :: y :: t) (i + 1) = (if ¬ x < y ∧ f ≤ x then 1 else 0) + tsum (decide (x < y)) y t i
  | 0, _ => by simp [tcnt, tsum]
  | i + 1, h => by
    have ih := tcnt_turns f x y t i (by omega)
    rw [tcnt, ih, tsum_step i t _ _ (by omega), if_neg (show ¬ (i + 1 = 0) by omega), Nat.add_assoc]
    congr 2
    cases i with
    | zero => simp [eq_comm]
    | succ j => simp [eq_comm]
theorem tcnt_all (f : Int) (O : List Int) : tcnt f O (O.length - 1) = turnsN f O := by
  cases O with
  | nil => rfl
  | cons x t =>
    cases t with
    | nil => rfl
    | cons y t =>
      show tcnt f (x :: y :: t) (t.length + 1) = _
      rw [tcnt_turns f x y t t.length (Nat.le_refl _), tsum_all]
      rfl
end Go.Proofs.Ytfbjeiloefocgaa.CC
