import Derived.Test.YthembklejaabiaaFl0
/-! Floats that are small whole numbers: plain laws. -/
namespace Go.Proofs.Ythembklejaabiaa.Fl
open Ieee
theorem is_F (n : Int) (h : -1100 < n ∧ n < 1100) : Is (F n) n := by
  rcases Int.lt_or_le n 0 with h0 | h0
  · obtain ⟨k, hk⟩ := Int.eq_ofNat_of_zero_le (show 0 ≤ -n by omega)
    rw [show n = -(k : Int) by omega]
    exact isB_is (is_neg k (by omega))
  · obtain ⟨k, rfl⟩ := Int.eq_ofNat_of_zero_le h0
    exact isB_is (is_nat k (by omega))
theorem signed_up (s : Bool) (m u : Nat) : signed s m u = signed s m 0 * 2 ^ u := by
  unfold signed
  simp only [Nat.shiftLeft_eq, Nat.pow_zero, Nat.mul_one]
  split
  · rw [Int.neg_mul, Int.natCast_mul, Int.natCast_pow]; rfl
  · rw [Int.natCast_mul, Int.natCast_pow]; rfl
theorem Is.up {s : Bool} {m : Nat} {p : Int} {n : Int} (hp : p ≤ 0) (h : signed s m 0 = n * 2 ^ (-p).toNat) (base : Int) (hb : base ≤ p) : signed s m (p - base).toNat = n * 2 ^ (-base).toNat := by
  rw [signed_up, h, Int.mul_assoc, ← Int.pow_add, show (-p).toNat + (p - base).toNat = (-base).toNat by omega]
theorem pow_pos2 (k : Nat) : (0 : Int) < 2 ^ k := Int.pow_pos (by decide)
theorem order_is {b c : Nat} {n k : Int} (hb : Is b n) (hc : Is c k) : double.order b c = some (compare n k) := by
  obtain ⟨s, m, p, h1, h2, h3, h4, h5⟩ := hb
  obtain ⟨t, l, q, g1, g2, g3, g4, g5⟩ := hc
  unfold Format.order
  rw [h1, g1]
  simp only [Datum.order]
  rw [Is.up h2 h4 _ (by omega), Is.up g2 g4 _ (by omega)]
  congr 1
  have hpos := pow_pos2 (-(min p q)).toNat
  generalize (2 : Int) ^ (-(min p q)).toNat = K at hpos
  rcases Int.lt_trichotomy n k with h | h | h
  · rw [show compare n k = .lt from Int.compare_eq_lt.2 h]
    exact Int.compare_eq_lt.2 (Int.mul_lt_mul_of_pos_right h hpos)
  · subst h; rw [show compare n n = .eq from Int.compare_eq_eq.2 rfl]
    exact Int.compare_eq_eq.2 rfl
  · rw [show compare n k = .gt from Int.compare_eq_gt.2 h]
    exact Int.compare_eq_gt.2 (Int.mul_lt_mul_of_pos_right h hpos)
theorem mp_ne {m : Nat} (h : m ≠ 0) (K : Nat) : m * 2 ^ K ≠ 0 := Nat.mul_ne_zero h (by have := Nat.two_pow_pos K; omega)
theorem log2_up (m : Nat) (h : m ≠ 0) (K : Nat) : (m * 2 ^ K).log2 = m.log2 + K := by
  induction K with
  | zero => simp
  | succ K ih =>
    rw [Nat.pow_succ, ← Nat.mul_assoc, Nat.mul_comm (m * 2 ^ K) 2, Nat.log2_two_mul (mp_ne h K), ih]
    omega
theorem cut_even (neg : Bool) (c d : Nat) (h0 : c ≠ 0) : Toward.even.cut neg (c * 2 ^ d) d = c := by
  unfold Toward.cut
  rw [log2_up c h0, show min d (c.log2 + d + 2) = d by omega, Nat.one_shiftLeft]
  have hp : 0 < 2 ^ d := Nat.two_pow_pos d
  simp only [Nat.mul_mod_left, Nat.mul_div_left _ hp]
  have h1 : (2 ^ d == 2 * 0) = false := by simp
  have h2 : decide (2 ^ d < 2 * 0) = false := by simp
  rw [h1, h2]
  simp
theorem nearest_up (neg : Bool) (m K : Nat) (hm : m < 4096) (hK : K ≤ 1074) : double.nearest neg (m * 2 ^ K) (-(K : Int)) = double.nearest neg m 0 := by
  unfold Format.nearest
  by_cases h0 : m = 0
  · simp [h0]
  · have hk0 : m * 2 ^ K ≠ 0 := mp_ne h0 K
    rw [if_neg h0, if_neg hk0, log2_up m h0]
    have hl : m.log2 < 12 := (Nat.log2_lt h0).2 hm
    have hfb : (double.fractionBits : Int) = 52 := rfl
    have hlp : double.leastPlace = -1074 := by decide
    simp only [hfb, hlp]
    rw [show max (-(K : Int) + ((m.log2 + K : Nat) : Int) - 52) (-1074) = (m.log2 : Int) - 52 by omega, show max ((0 : Int) + (m.log2 : Int) - 52) (-1074) = (m.log2 : Int) - 52 by omega]
    obtain ⟨L, hL⟩ : ∃ L : Nat, 52 - m.log2 = L := ⟨_, rfl⟩
    have e1 : (0 - ((m.log2 : Int) - 52)).toNat = L := by omega
    have e2 : ((m.log2 : Int) - 52 - 0).toNat = 0 := by omega
    rw [e1, e2]
    congr 3
    have hz : Toward.even.cut neg (m <<< L) 0 = m * 2 ^ L := by
      have := cut_even neg (m * 2 ^ L) 0 (mp_ne h0 L)
      rw [Nat.shiftLeft_eq]; simpa using this
    rw [hz]
    rcases Nat.lt_or_ge L K with h | h
    · rw [show (-(K : Int) - ((m.log2 : Int) - 52)).toNat = 0 by omega, show ((m.log2 : Int) - 52 - -(K : Int)).toNat = K - L by omega, Nat.shiftLeft_zero,
        show m * 2 ^ K = m * 2 ^ L * 2 ^ (K - L) by rw [Nat.mul_assoc, ← Nat.pow_add, show L + (K - L) = K by omega]]
      exact cut_even neg _ _ (mp_ne h0 L)
    · rw [show (-(K : Int) - ((m.log2 : Int) - 52)).toNat = L - K by omega, show ((m.log2 : Int) - 52 - -(K : Int)).toNat = 0 by omega, Nat.shiftLeft_eq, Nat.mul_assoc, ← Nat.pow_add, show K + (L - K) = L by omega]
      have := cut_even neg (m * 2 ^ L) 0 (mp_ne h0 L)
      simpa using this
theorem sum_is {d e : Datum} {n k : Int} {s m p t l q} (hd : d = .number s m p) (he : e = .number t l q) (h2 : p ≤ 0) (h3 : -1074 ≤ p) (h4 : signed s m 0 = n * 2 ^ (-p).toNat) (g2 : q ≤ 0) (g3 : -1074 ≤ q) (g4 : signed t l 0 = k * 2 ^ (-q).toNat)
    (hz : n + k = 0 → (s && t) = false) (hn : -1100 < n + k ∧ n + k < 1100) : (d.sum e).map double.write = some (F (n + k)) := by
  subst hd he
  simp only [Datum.sum]
  rw [Is.up h2 h4 _ (by omega), Is.up g2 g4 _ (by omega), ← Int.add_mul]
  simp only [Option.map_some, Format.write]
  have hpos := pow_pos2 (-(min p q)).toNat
  obtain ⟨K, hK⟩ : ∃ K : Nat, (-(min p q)).toNat = K := ⟨_, rfl⟩
  rw [hK] at hpos ⊢
  rw [show min p q = -(K : Int) by omega, F_def]
  have hab : ((n + k) * 2 ^ K).natAbs = (n + k).natAbs * 2 ^ K := by
    rw [Int.natAbs_mul, Int.natAbs_pow]; rfl
  rw [hab, nearest_up _ _ _ (by omega) (by omega)]
  congr 2
  rcases Int.lt_trichotomy (n + k) 0 with h | h | h
  · have : (n + k) * 2 ^ K < 0 := Int.mul_neg_of_neg_of_pos h hpos
    rw [if_neg (by omega)]
    simp [this, h]
  · rw [h, Int.zero_mul, if_pos rfl, hz h]; simp
  · have : 0 < (n + k) * 2 ^ K := Int.mul_pos h hpos
    rw [if_neg (by omega)]
    rw [show decide ((n + k) * 2 ^ K < 0) = false by simp; omega, show decide (n + k < 0) = false by simp; omega]
theorem zero_sign {s : Bool} {m : Nat} {p : Int} {n : Int} (h4 : signed s m 0 = n * 2 ^ (-p).toNat) : (m = 0 ↔ n = 0) ∧ (m ≠ 0 → s = decide (n < 0)) := by
  have hpos := pow_pos2 (-p).toNat
  generalize (2 : Int) ^ (-p).toNat = K at hpos h4
  have hs : signed s m 0 = if s then -(m : Int) else (m : Int) := by unfold signed; simp
  rw [hs] at h4
  rcases Int.lt_trichotomy n 0 with h | h | h
  · have := Int.mul_neg_of_neg_of_pos h hpos
    cases s
    · simp only [Bool.false_eq_true, if_false] at h4; omega
    · simp only [if_true] at h4
      refine ⟨by omega, fun _ => by simp [h]⟩
  · subst h
    rw [Int.zero_mul] at h4
    have hm : m = 0 := by cases s <;> simp at h4 <;> omega
    exact ⟨by simp [hm], fun h => absurd hm h⟩
  · have := Int.mul_pos h hpos
    cases s
    · simp only [Bool.false_eq_true, if_false] at h4
      refine ⟨by omega, fun _ => by simp; omega⟩
    · simp only [if_true] at h4; omega
theorem add_is {b c : Nat} {n k : Int} (hb : Is b n) (hc : Is c k) (hn : -1100 < n + k ∧ n + k < 1100) : floatBits .add .f64 b c = some (F (n + k)) := by
  obtain ⟨s, m, p, h1, h2, h3, h4, h5⟩ := hb
  obtain ⟨t, l, q, g1, g2, g3, g4, g5⟩ := hc
  show ((double.read b).sum (double.read c)).map double.write = _
  refine sum_is h1 g1 h2 h3 h4 g2 g3 g4 (fun hz => ?_) hn
  obtain ⟨z1, z2⟩ := zero_sign h4
  obtain ⟨y1, y2⟩ := zero_sign g4
  by_cases hm : m = 0
  · rw [h5 hm]; rfl
  · by_cases hl : l = 0
    · rw [g5 hl, Bool.and_false]
    · rw [z2 hm, y2 hl]
      by_cases hx : n < 0
      · rw [show decide (k < 0) = false by simp; omega, Bool.and_false]
      · rw [show decide (n < 0) = false by simp; omega, Bool.false_and]
theorem sub_is {b c : Nat} {n k : Int} (hb : Is b n) (hc : Is c k) (hn : -1100 < n - k ∧ n - k < 1100) : floatBits .sub .f64 b c = some (F (n - k)) := by
  obtain ⟨s, m, p, h1, h2, h3, h4, h5⟩ := hb
  obtain ⟨t, l, q, g1, g2, g3, g4, g5⟩ := hc
  show ((double.read b).sum (double.read c).opposite).map double.write = _
  have hop : signed (!t) l 0 = (-k) * 2 ^ (-q).toNat := by
    rw [Int.neg_mul, ← g4]
    unfold signed
    cases t <;> simp
  rw [show n - k = n + -k by omega]
  refine sum_is (t := !t) (l := l) (q := q) h1 (by rw [g1]; rfl) h2 h3 h4 g2 g3 hop (fun hz => ?_) (by omega)
  obtain ⟨z1, z2⟩ := zero_sign h4
  obtain ⟨y1, y2⟩ := zero_sign g4
  by_cases hm : m = 0
  · rw [h5 hm]; rfl
  · by_cases hl : l = 0
    · have : n = 0 := by have := y1.1 hl; omega
      exact absurd (z1.2 this) hm
    · rw [z2 hm, y2 hl]
      by_cases hx : n < 0
      · rw [show decide (k < 0) = true by simp; omega]; simp
      · rw [show decide (n < 0) = false by simp; omega]; simp
theorem abs_is (n : Int) (h : -1100 < n ∧ n < 1100) : Go.bits .andNot .u64 (F n : Int) 9223372036854775808 = (F (n.natAbs : Int) : Int) := by
  rcases Int.lt_or_le n 0 with h0 | h0
  · have := (abs_nat n.natAbs (by omega)).2
    rw [show -((n.natAbs : Nat) : Int) = n by omega] at this
    exact this
  · have := (abs_nat n.natAbs (by omega)).1
    rw [show ((n.natAbs : Nat) : Int) = n by omega] at this ⊢
    exact this
theorem toInt_is (n : Int) (h : -1100 < n ∧ n < 1100) : floatToIntVal .f64 (F n) .i64 = some n := by
  rcases Int.lt_or_le n 0 with h0 | h0
  · have := (int_nat n.natAbs (by omega)).2
    rw [show -((n.natAbs : Nat) : Int) = n by omega] at this
    exact this
  · have := (int_nat n.natAbs (by omega)).1
    rw [show ((n.natAbs : Nat) : Int) = n by omega] at this
    exact this
end Go.Proofs.Ythembklejaabiaa.Fl
