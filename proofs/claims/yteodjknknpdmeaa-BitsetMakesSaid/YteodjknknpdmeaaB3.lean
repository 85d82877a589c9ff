import Derived.Test.YteodjknknpdmeaaB2
/-! Plain laws of the bits of bytes, 4: the rows. -/
namespace Go.Proofs.Yteodjknknpdmeaa.Pure
open Go.RowKit
open Go.Proofs.Yteodjknknpdmeaa.PG Go.Proofs.YteodjknknpdmeaaW.PrintWords Go.Proofs.YteodjknknpdmeaaW.PrintLast Go.Proofs.YteodjknknpdmeaaW.PrintMore
/-- Rising, from a on, below z. -/
def Rise : Int → Int → List Int → Prop
  | _, _, [] => True
  | a, z, x :: xs => a ≤ x ∧ x < z ∧ Rise (x + 1) z xs
theorem Rise.mem {xs : List Int} : ∀ {a z : Int}, Rise a z xs → ∀ x ∈ xs, a ≤ x ∧ x < z := by
  induction xs with
  | nil => intro a z _ x hx; simp at hx
  | cons y ys ih =>
    intro a z h x hx
    rcases List.mem_cons.1 hx with rfl | hx
    · exact ⟨h.1, h.2.1⟩
    · have := ih h.2.2 x hx; have := h.1; omega
theorem rise_filter (p : Nat → Bool) (d : Nat) : ∀ k : Nat, Rise (k : Int) ((k + d : Nat) : Int) (((List.range' k d).filter p).map Int.ofNat) := by
  induction d with
  | zero => intro k; simp [Rise]
  | succ d ih =>
    intro k
    rw [List.range'_succ, List.filter_cons]
    have h := ih (k + 1)
    rw [show k + 1 + d = k + (d + 1) by omega] at h
    split
    · simp only [List.map_cons, Rise]
      exact ⟨Int.le_refl _, by show (k : Int) < _; omega, h⟩
    · have : ∀ (a a' z : Int) (xs : List Int), a ≤ a' → Rise a' z xs → Rise a z xs := by
        intro a a' z xs ha hx
        cases xs with
        | nil => trivial
        | cons x xs => exact ⟨Int.le_trans ha hx.1, hx.2.1, hx.2.2⟩
      exact this _ _ _ _ (by omega) h
theorem bitsOf_rise (l : List Int) : Rise 0 (8 * (l.length : Int)) (bitsOf l) := by
  rw [bitsOf_is, nbits, List.range_eq_range']
  have := rise_filter (bit l) (8 * l.length) 0
  simpa using this
theorem mem_bitsOf (l : List Int) (x : Int) : x ∈ bitsOf l ↔ bitI l x = true := by
  rw [bitsOf_is, nbits]
  constructor
  · intro h
    obtain ⟨n, hn, rfl⟩ := List.mem_map.1 h
    have := (List.mem_filter.1 hn).2
    unfold bitI
    simp only [Int.ofNat_eq_natCast, Int.toNat_natCast, this]
    simp
  · intro h
    unfold bitI at h
    simp only [Bool.and_eq_true, decide_eq_true_eq] at h
    obtain ⟨n, rfl⟩ := Int.eq_ofNat_of_zero_le h.1
    refine List.mem_map.2 ⟨n, List.mem_filter.2 ⟨List.mem_range.2 ?_, by simpa using h.2⟩, rfl⟩
    rcases Nat.lt_or_ge n (8 * l.length) with hh | hh
    · exact hh
    · have := bit_out l n (by omega)
      simp [this] at h
/-- What rows are of numbers that rise: their bits are those numbers; none beside another one; how many; where the last one ends. -/
structure Rows (t : List Int) (rs : List S30) : Prop where
  sum : (rs.map (·.f1)).sum = (t.length : Int)
  mem : ∀ r ∈ rs, 1 ≤ r.f1 ∧ ∀ j, r.f0 ≤ j → j < r.f0 + r.f1 → j ∈ t
  gap : ∀ (i : Nat) (a b : S30), rs[i]? = some a → rs[i + 1]? = some b → a.f0 + a.f1 < b.f0
  last : ∀ (ts : List S30) (r : S30), rs = ts ++ [r] → ∃ u x, t = u ++ [x] ∧ r.f0 + r.f1 = x + 1
theorem rise_snoc {t : List Int} {x : Int} : ∀ {a z : Int}, Rise a z (t ++ [x]) → Rise a z t ∧ a ≤ x ∧ x < z ∧ ∀ y ∈ t, y < x := by
  induction t with
  | nil => intro a z h; exact ⟨trivial, h.1, h.2.1, by simp⟩
  | cons y ys ih =>
    intro a z h
    obtain ⟨h1, h2, h3, h4⟩ := ih h.2.2
    refine ⟨⟨h.1, h.2.1, h1⟩, by have := h.1; omega, h3, ?_⟩
    intro w hw
    rcases List.mem_cons.1 hw with rfl | hw
    · omega
    · exact h4 w hw
theorem runs_rows (t : List Int) (N : Int) (hN : N ≤ 1000000) : Rise 0 N t → Rows t (runs t) := by
  refine snocRec (p := fun t => Rise 0 N t → Rows t (runs t)) ?_ ?_ t
  · intro _
    exact ⟨rfl, fun r hr => by simp [runs] at hr, fun i a b h => by simp [runs] at h, fun ts r h => by simp [runs] at h⟩
  · intro t x ih h
    obtain ⟨h1, h2, h3, h4⟩ := rise_snoc h
    have R := ih h1
    rw [runs_snoc]
    rcases List.eq_nil_or_concat (runs t) with hr | ⟨ts, r, hr⟩
    · rw [hr]
      rw [hr] at R
      have h0 : t = [] := by
        have := R.sum
        simp at this
        exact List.eq_nil_of_length_eq_zero (by omega)
      subst h0
      refine ⟨by simp [addRun], ?_, ?_, ?_⟩
      · intro r hr
        simp [addRun] at hr
        subst hr
        refine ⟨by simp, fun j h5 h6 => ?_⟩
        simp at h5 h6 ⊢
        omega
      · intro i a b h5 h6
        simp [addRun] at h6
      · intro ts r h5
        rw [addRun_nil] at h5
        obtain ⟨_, h6⟩ := List.append_inj' (s₁ := []) (t₁ := [(⟨x, 1⟩ : S30)]) h5 rfl
        simp at h6
        subst h6
        exact ⟨[], x, rfl, rfl⟩
    · rw [List.concat_eq_append] at hr
      rw [hr]
      rw [hr] at R
      obtain ⟨u, y, hu, hy⟩ := R.last ts r rfl
      have hyx : y < x := h4 y (by rw [hu]; simp)
      have hrm := R.mem r (by simp)
      have hf0 : 0 ≤ r.f0 := (h1.mem _ (hrm.2 r.f0 (Int.le_refl _) (by omega))).1
      have hy0 := h1.mem y (by rw [hu]; simp)
      have hw : wrap64 (r.f0 + r.f1) = r.f0 + r.f1 := wrapI (by omega)
      by_cases hx : wrap64 (r.f0 + r.f1) = x
      · rw [addRun_hit ts r x hx]
        rw [hw] at hx
        have hw2 : wrap64 (r.f1 + 1) = r.f1 + 1 := wrapI (by omega)
        rw [hw2]
        refine ⟨?_, ?_, ?_, ?_⟩
        · have := R.sum
          simp only [List.map_append, List.sum_append, List.map_cons, List.map_nil, List.sum_cons, List.sum_nil, List.length_append, List.length_singleton] at this ⊢
          omega
        · intro q hq
          rcases List.mem_append.1 hq with hq | hq
          · obtain ⟨h5, h6⟩ := R.mem q (by simp [hq])
            exact ⟨h5, fun j h7 h8 => List.mem_append_left _ (h6 j h7 h8)⟩
          · simp at hq
            subst hq
            refine ⟨by show 1 ≤ r.f1 + 1; omega, fun j h7 h8 => ?_⟩
            simp only at h7 h8
            by_cases hj : j = x
            · simp [hj]
            · exact List.mem_append_left _ (hrm.2 j h7 (by omega))
        · intro i a b h5 h6
          have hlen : (ts ++ [(⟨r.f0, r.f1 + 1⟩ : S30)]).length = ts.length + 1 := by simp
          have hi : i + 1 < ts.length + 1 := by have := (List.getElem?_eq_some_iff.1 h6).1; omega
          rw [List.getElem?_append_left (by omega)] at h5
          have h5' : (ts ++ [r])[i]? = some a := by rw [List.getElem?_append_left (by omega)]; exact h5
          rcases Nat.lt_or_ge (i + 1) ts.length with hh | hh
          · rw [List.getElem?_append_left (by omega)] at h6
            exact R.gap i a b h5' (by rw [List.getElem?_append_left (by omega)]; exact h6)
          · have hi2 : i + 1 = ts.length := by omega
            rw [hi2] at h6
            simp at h6
            have := R.gap i a r h5' (by rw [hi2]; simp)
            rw [← h6]
            exact this
        · intro ts' r' h5
          obtain ⟨h6, h7⟩ := List.append_inj' h5 rfl
          simp at h7
          subst h7
          exact ⟨t, x, rfl, by show r.f0 + (r.f1 + 1) = x + 1; omega⟩
      · rw [addRun_miss ts r x hx]
        rw [hw] at hx
        refine ⟨?_, ?_, ?_, ?_⟩
        · have := R.sum
          simp only [List.map_append, List.sum_append, List.map_cons, List.map_nil, List.sum_cons, List.sum_nil, List.length_append, List.length_singleton] at this ⊢
          omega
        · intro q hq
          rcases List.mem_append.1 hq with hq | hq
          · obtain ⟨h5, h6⟩ := R.mem q hq
            exact ⟨h5, fun j h7 h8 => List.mem_append_left _ (h6 j h7 h8)⟩
          · simp at hq
            subst hq
            refine ⟨by simp, fun j h7 h8 => ?_⟩
            simp only at h7 h8
            obtain rfl : j = x := by omega
            simp
        · intro i a b h5 h6
          have hi : i + 1 < ts.length + 2 := by have := (List.getElem?_eq_some_iff.1 h6).1; simp at this; omega
          rw [List.getElem?_append_left (by simp; omega)] at h5
          rcases Nat.lt_or_ge (i + 1) (ts.length + 1) with hh | hh
          · rw [List.getElem?_append_left (by simp; omega)] at h6
            exact R.gap i a b h5 h6
          · have hi2 : i = ts.length := by omega
            subst hi2
            simp at h5 h6
            subst h5 h6
            show r.f0 + r.f1 < x
            omega
        · intro ts' r' h5
          obtain ⟨h6, h7⟩ := List.append_inj' h5 rfl
          simp at h7
          subst h7
          exact ⟨t, x, rfl, rfl⟩
end Go.Proofs.Yteodjknknpdmeaa.Pure
