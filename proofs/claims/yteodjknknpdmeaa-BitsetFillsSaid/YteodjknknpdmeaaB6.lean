import Derived.Test.YteodjknknpdmeaaB2
import Derived.Test.YteodjknknpdmeaaPGx5
/-! Plain laws of the bits of bytes, 7: the law BitsetFills. -/
namespace Go.Proofs.Yteodjknknpdmeaa.Pure
open Go.RowKit
open Go.Proofs.Yteodjknknpdmeaa.PG Go.Proofs.YteodjknknpdmeaaW.PrintWords Go.Proofs.YteodjknknpdmeaaW.PrintLast Go.Proofs.YteodjknknpdmeaaW.PrintMore
/-- The free ones from a on, d of them looked at. -/
def fr (x : List Int) (a d : Nat) : List Nat := (List.range' a d).filter (fun j => decide (j < 8 * x.length) && !bit x j)
theorem fr_len (x : List Int) (a d : Nat) : (fr x a d).length ≤ d := by
  have := List.length_filter_le (fun j => decide (j < 8 * x.length) && !bit x j) (List.range' a d)
  simpa [fr] using this
theorem filter_drop (p : Nat → Bool) (i : Nat) (hp : p i = true) (d : Nat) : ∀ a, a ≤ i → i < a + d → ((List.range' a d).filter p).length = ((List.range' a d).filter (fun j => p j && !(j == i))).length + 1 := by
  induction d with
  | zero => intro a h1 h2; omega
  | succ d ih =>
    intro a h1 h2
    rw [List.range'_succ, List.filter_cons, List.filter_cons]
    by_cases ha : a = i
    · subst ha
      rw [if_pos hp, if_neg (by simp)]
      simp only [List.length_cons]
      congr 2
      apply List.filter_congr
      intro j hj
      have := (List.mem_range'_1.1 hj).1
      have hne : (j == a) = false := by simp; omega
      simp [hne]
    · have := ih (a + 1) (by omega) (by omega)
      have hne : (a == i) = false := by simp [ha]
      rw [hne]
      simp only [Bool.not_false, Bool.and_true]
      split
      · simp only [List.length_cons, this]
      · exact this
theorem fr_step (x : List Int) (a d : Nat) : fr x a (d + 1) = fr x a d ++ if (decide (a + d < 8 * x.length) && !bit x (a + d)) = true then [a + d] else [] := by
  unfold fr
  rw [List.range'_concat, List.filter_append, List.filter_cons]
  simp only [Nat.one_mul, List.filter_nil]
theorem fr_far (x : List Int) (a d : Nat) (h : 8 * x.length ≤ a + d) (e : Nat) : fr x a (d + e) = fr x a d := by
  induction e with
  | zero => rfl
  | succ e ih => rw [← Nat.add_assoc, fr_step, ih, if_neg (by simp; omega), List.append_nil]
theorem fills_fin (x : List Int) (hn : x.length ≤ 80) (a z : Nat) (r : Bool) (hend : Ev (fun k => selvedgelaw02_BitsetFills.l1 k (a : Int) (z : Int) ((fr x a (z - a)).length : Int) x (-1) 0) r)
    (i : Nat) (ha : a ≤ i) (hi : i ≤ max a z) (ho : i < z → 8 * x.length ≤ i) : Ev (fun k => selvedgelaw02_BitsetFills.j1 k x (a : Int) (z : Int) ((fr x a (i - a)).length : Int) (i : Int) false) r := by
  have he : fr x a (i - a) = fr x a (z - a) := by
    rcases Nat.lt_or_ge i z with h | h
    · have h8 := ho h
      rw [show z - a = i - a + (z - i) by omega, fr_far x a (i - a) (by omega)]
    · rw [show i - a = z - a by omega]
  refine Ev.step (fun k => ?_) (he ▸ hend)
  simp only [selvedgelaw02_BitsetFills.j1]
  rw [if_neg (by simp)]
  simp only [Option.bind_some, List.nil_append, List.length_nil, Nat.zero_add]
  rw [if_pos (by omega), he]
theorem fills_l0 (x : List Int) (hl : Bytes x) (hn : x.length ≤ 80) (a z : Nat) (hz : z ≤ 255) (hz2 : a ≤ 255) (r : Bool) (hend : Ev (fun k => selvedgelaw02_BitsetFills.l1 k (a : Int) (z : Int) ((fr x a (z - a)).length : Int) x (-1) 0) r) (d : Nat) :
    ∀ i : Nat, max a z - i = d → a ≤ i → i ≤ max a z → Ev (fun k => selvedgelaw02_BitsetFills.l0 k x (a : Int) (z : Int) ((fr x a (i - a)).length : Int) (i : Int)) r := by
  induction d with
  | zero =>
    intro i hd ha hi
    refine Ev.step (fun k => ?_) (fills_fin x hn a z r hend i ha hi (by omega))
    simp only [selvedgelaw02_BitsetFills.l0]
    rw [if_neg (by omega)]
  | succ d ih =>
    intro i hd ha hi
    by_cases hiz : i < z
    · by_cases h8 : i < 8 * x.length
      · have next := ih (i + 1) (by omega) (by omega) (by omega)
        have hb : bitI x (i : Int) = bit x i := by simp [bitI]
        have hfl := fr_len x a (i - a)
        rw [show i + 1 - a = (i - a) + 1 by omega, fr_step, show a + (i - a) = i by omega, List.length_append] at next
        refine Ev.step (f := fun k => selvedgelaw02_BitsetFills.j1 k x (a : Int) (z : Int) ((fr x a (i - a)).length : Int) (i : Int) true) (fun k => ?_) (Ev.step (fun k => ?_) next)
        · simp only [selvedgelaw02_BitsetFills.l0]
          rw [if_pos (by omega), wrapI (show _ ≤ 8 * (x.length : Int) ∧ _ by omega), show decide ((i : Int) < 8 * (x.length : Int)) = true by simp; omega]
        · simp only [selvedgelaw02_BitsetFills.j1, if_true, get_is x _ hl (show (i : Int) ≤ _ by omega), Option.bind_some, hb]
          rw [wrapI (show _ ≤ (i : Int) + 1 ∧ _ by omega)]
          cases hbit : bit x i with
          | true => simp
          | false =>
            simp [h8, wrapI (show _ ≤ ((fr x a (i - a)).length : Int) + 1 ∧ _ by omega)]
      · refine Ev.step (fun k => ?_) (fills_fin x hn a z r hend i ha hi (by omega))
        simp only [selvedgelaw02_BitsetFills.l0]
        rw [if_pos (by omega), wrapI (show _ ≤ 8 * (x.length : Int) ∧ _ by omega), show decide ((i : Int) < 8 * (x.length : Int)) = false by simp; omega]
    · refine Ev.step (fun k => ?_) (fills_fin x hn a z r hend i ha hi (by omega))
      simp only [selvedgelaw02_BitsetFills.l0]
      rw [if_neg (by omega)]
theorem fr_nil (x : List Int) (a z : Nat) (h : ∀ j : Int, (a : Int) ≤ j → 0 ≤ j → j < (z : Int) → j < 8 * (x.length : Int) → bitI x j = true) : fr x a (z - a) = [] := by
  unfold fr
  rw [List.filter_eq_nil_iff]
  intro j hj
  have hj := List.mem_range'_1.1 hj
  by_cases h8 : j < 8 * x.length
  · have := h (j : Int) (by omega) (by omega) (by omega) (by omega)
    simp [bitI] at this
    simp [this]
  · simp [h8]
theorem setL_len (l : List Int) (i : Int) (on : Bool) (h0 : 0 ≤ i) (h1 : i / 8 < (l.length : Int)) : (setL l i on).1.length = l.length := by
  rw [setL_ok l i on h0 h1]; simp
theorem fr_set (x : List Int) (hl : Bytes x) (a z i : Nat) (h1 : a ≤ i) (h2 : i < z) (h3 : i < 8 * x.length) (hb : bit x i = false) : (fr x a (z - a)).length = (fr (setL x (i : Int) true).1 a (z - a)).length + 1 := by
  unfold fr
  rw [filter_drop (fun j => decide (j < 8 * x.length) && !bit x j) i (by simp [h3, hb]) (z - a) a h1 (by omega), setL_len x _ _ (by omega) (by omega)]
  congr 2
  apply List.filter_congr
  intro j _
  have hj : bit (setL x (i : Int) true).1 j = if j = i then true else bit x j := by
    have h := bitI_set hl (i : Int) true (by omega) (by omega) (j : Int)
    simp only [bitI, Int.toNat_natCast] at h
    have e : decide (0 ≤ (j : Int)) = true := by simp
    rw [e] at h
    simp only [Bool.true_and] at h
    rw [h]
    by_cases hji : j = i
    · rw [if_pos (by omega), if_pos hji]
    · rw [if_neg (by omega), if_neg hji]
  rw [hj]
  by_cases hji : j = i
  · simp [hji]
  · simp [hji]
theorem fills_l1 (a z : Nat) (hz : z ≤ 255) (hz2 : a ≤ 255) (want : Nat) (hw : want ≤ 255) (d : Nat) : ∀ (x : List Int) (last : Int) (kk : Nat), Bytes x → x.length ≤ 80 → (fr x a (z - a)).length = d → kk + d = want → (∀ j, (a : Int) ≤ j → 0 ≤ j → j ≤ last → bitI x j = true) → -1 ≤ last →
    Ev (fun k => selvedgelaw02_BitsetFills.l1 k (a : Int) (z : Int) (want : Int) x last (kk : Int)) true := by
  induction d with
  | zero =>
    intro x last kk hl hn hd hk hm h1
    obtain ⟨r, hr, er⟩ := first_is x hl hn (a : Int) (z : Int) (by omega)
    rcases hr with ⟨r2, ra, r0, rz, rn, rb, rm⟩ | ⟨rfl, rm⟩
    · obtain ⟨i, hi⟩ := Int.eq_ofNat_of_zero_le r0
      have hb : bit x i = false := by rw [hi] at rb; simpa [bitI] using rb
      have := fr_set x hl a z i (by omega) (by omega) (by omega) hb
      omega
    · refine Ev.step (f := fun k => (bitset_First.f k x (a : Int) (z : Int)).bind fun bt216 => (if bt216.2 = true then (if bt216.1 ≤ last then (selvedgelaw02_BitsetFills.j3 k (a : Int) (z : Int) want x kk bt216.1 true) else (if bt216.1 < (a : Int) then (selvedgelaw02_BitsetFills.j3 k (a : Int) (z : Int) want x kk bt216.1 true) else (selvedgelaw02_BitsetFills.j3 k (a : Int) (z : Int) want x kk bt216.1 (decide (bt216.1 ≥ (z : Int)))))) else ((selvedgelaw02_live.f k).bind fun t218 => (if t218 = true then (some ((kk : Int) == (want : Int))) else (some false))))) (fun k => ?_) (Ev.bind er ?_)
      · simp only [selvedgelaw02_BitsetFills.l1]
        rw [if_pos (by omega)]
      · simp only [Bool.false_eq_true, if_false]
        refine Ev.bind live_ev ?_
        simp only [if_true]
        rw [show ((kk : Int) == (want : Int)) = true by simp; omega]
        exact Ev.now true
  | succ d ih =>
    intro x last kk hl hn hd hk hm h1
    obtain ⟨r, hr, er⟩ := first_is x hl hn (a : Int) (z : Int) (by omega)
    rcases hr with ⟨r2, ra, r0, rz, rn, rb, rm⟩ | ⟨rfl, rm⟩
    · obtain ⟨i, hi⟩ := Int.eq_ofNat_of_zero_le r0
      have hb : bit x i = false := by rw [hi] at rb; simpa [bitI] using rb
      have hset := fr_set x hl a z i (by omega) (by omega) (by omega) hb
      have hlast : last < r.1 := by
        rcases Int.lt_or_le last r.1 with h | h
        · exact h
        · rw [hm r.1 ra r0 h] at rb; exact absurd rb (by simp)
      have next := ih (setL x r.1 true).1 r.1 (kk + 1) (setL_bytes hl _ _) (by rw [setL_len x _ _ r0 (by omega)]; exact hn) (by rw [hi]; omega) (by omega) (fun j h1 h2 h3 => by
        rw [bitI_set hl r.1 true r0 (by omega)]
        split
        · rfl
        · exact rm j h1 h2 (by omega)) (by omega)
      refine Ev.step (f := fun k => (bitset_First.f k x (a : Int) (z : Int)).bind fun bt216 => (if bt216.2 = true then (if bt216.1 ≤ last then (selvedgelaw02_BitsetFills.j3 k (a : Int) (z : Int) want x kk bt216.1 true) else (if bt216.1 < (a : Int) then (selvedgelaw02_BitsetFills.j3 k (a : Int) (z : Int) want x kk bt216.1 true) else (selvedgelaw02_BitsetFills.j3 k (a : Int) (z : Int) want x kk bt216.1 (decide (bt216.1 ≥ (z : Int)))))) else ((selvedgelaw02_live.f k).bind fun t218 => (if t218 = true then (some ((kk : Int) == (want : Int))) else (some false))))) (fun k => ?_) (Ev.bind er ?_)
      · simp only [selvedgelaw02_BitsetFills.l1]
        rw [if_pos (by omega)]
      · refine Ev.congr (f := fun k => selvedgelaw02_BitsetFills.j3 k (a : Int) (z : Int) want x kk r.1 false) (fun k => by
          show (if r.2 = true then _ else _) = _
          rw [if_pos r2, if_neg (by omega), if_neg (by omega), show decide (r.1 ≥ (z : Int)) = false by simp; omega]) ?_
        refine Ev.step (f := fun k => (bitset_Set.f k x r.1 true).bind fun bt219 => (if bt219.2 = 0 then (selvedgelaw02_BitsetFills.l1 k (a : Int) (z : Int) want bt219.1 r.1 (wrap64 ((kk : Int) + 1))) else (some false))) (fun k => ?_) (Ev.bind (a := setL x r.1 true) ⟨1, fun k hk => set_is x r.1 true hl (by omega) (by omega) k hk⟩ ?_)
        · simp [selvedgelaw02_BitsetFills.j3]
        · refine Ev.congr (fun k => ?_) next
          show (if (setL x r.1 true).2 = 0 then _ else _) = _
          rw [if_pos (by rw [setL_ok x _ _ r0 (by omega)]), wrapI (by omega)]
          rfl
    · rw [fr_nil x a z rm] at hd
      simp at hd
end Go.Proofs.Yteodjknknpdmeaa.Pure
