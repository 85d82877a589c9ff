import Derived.WalkLawsBesides
import Derived.Test.YtfbjeiloefocgaaProg
import Derived.Below
import Derived.Deep.Draws
import Derived.Deep.AppendLies
import Derived.Maps.AppendAt
import Derived.OwnWalk
import Derived.Laws.BytesArg
import Derived.Laws.MakeOwn
import Derived.Laws.OwnMore
import Derived.Deep.OwnRows
import Derived.Tactics
import Derived.Lib.ConvBytes
import Derived.Laws.Slices
import Derived.WalkKit
import Derived.KernelRfl
import Derived.RowKit3
import Derived.Deep.LoopGhost
import Derived.Deep.QuietTactic
import Derived.BigQuiet
import Derived.WideLaws
import Derived.Deep.DeepCutAuto
import Derived.Deep.CutBlock
import Derived.Deep.RegionHeld3
import Derived.Laws.Rows
import Derived.Lib.AppendStr
import Derived.ArgAppend
import Derived.Laws.IdiomCopy
import Derived.OrdersHeld
import Derived.Laws.BitsLemmas
import Derived.RowKit
import Derived.Laws.Externs
import Derived.WalkMore
import Derived.Test.YtfbjeiloefocgaaWMore
import Derived.Test.YtfbjeiloefocgaaWRepsOne
import Derived.Test.YtfbjeiloefocgaaWNEv
import Derived.Test.YtfbjeiloefocgaaWEqStruct
import Derived.Test.YtfbjeiloefocgaaWGuard
import Derived.Shelf.Abstract
/-! Floats that are small whole numbers: tables. -/
namespace Go.Proofs.Ytfbjeiloefocgaa.Fl
open Ieee
/-- The float of a whole number. -/
def F (n : Int) : Nat := floatOfInt .f64 n
/-- A word stands for a whole number (a zero of it is +0, what is below one is told apart). -/
def Is (b : Nat) (n : Int) : Prop := ∃ s m p, double.read b = .number s m p ∧ p ≤ 0 ∧ -1074 ≤ p ∧ signed s m 0 = n * 2 ^ (-p).toNat ∧ (m = 0 → s = false)
def isB (b : Nat) (n : Int) : Bool := match double.read b with
  | .number s m p => decide (p ≤ 0) && decide (-1074 ≤ p) && decide (signed s m 0 = n * 2 ^ (-p).toNat) && (decide (m ≠ 0) || !s)
  | _ => false
theorem isB_is {b : Nat} {n : Int} (h : isB b n = true) : Is b n := by
  unfold isB at h
  split at h
  · next s m p hr =>
    simp only [Bool.and_eq_true, decide_eq_true_eq, Bool.or_eq_true, Bool.not_eq_true'] at h
    obtain ⟨⟨⟨h1, h2⟩, h3⟩, h4⟩ := h
    exact ⟨s, m, p, hr, h1, h2, h3, fun h0 => h4.resolve_left (fun hh => hh h0)⟩
  · exact absurd h (by simp)
theorem is_nat : ∀ n : Nat, n < 1100 → isB (F (n : Int)) (n : Int) = true := by decide +kernel
theorem is_neg : ∀ n : Nat, n < 1100 → isB (F (-(n : Int))) (-(n : Int)) = true := by decide +kernel
theorem abs_nat : ∀ n : Nat, n < 1100 → Go.bits .andNot .u64 (F (n : Int) : Int) 9223372036854775808 = (F (n : Int) : Int) ∧ Go.bits .andNot .u64 (F (-(n : Int)) : Int) 9223372036854775808 = (F (n : Int) : Int) := by decide +kernel
theorem int_nat : ∀ n : Nat, n < 1100 → floatToIntVal .f64 (F (n : Int)) .i64 = some (n : Int) ∧ floatToIntVal .f64 (F (-(n : Int))) .i64 = some (-(n : Int)) := by decide +kernel
/-- A word that stays as it is when its part behind the point goes. -/
def wholeB (b : Nat) : Bool := match double.read b with
  | .number s m p => double.write ((Datum.number s m p).integral .zero) == b
  | _ => false
theorem whole_nat : ∀ n : Nat, n < 1100 → wholeB (F (n : Int)) = true := by decide +kernel
theorem F_def (n : Int) : F n = double.nearest (decide (n < 0)) n.natAbs 0 := rfl
theorem F_eq (n : Int) : floatOfInt .f64 n = F n := rfl
attribute [irreducible] F
end Go.Proofs.Ytfbjeiloefocgaa.Fl
/-! Floats that are small whole numbers: plain laws. -/
namespace Go.Proofs.Ytfbjeiloefocgaa.Fl
open Ieee
theorem is_F (n : Int) (h : -1100 < n ∧ n < 1100) : Is (F n) n := by
  rcases Int.lt_or_le n 0 with h0 | h0
  · obtain ⟨k, hk⟩ := Int.eq_ofNat_of_zero_le (show 0 ≤ -n by omega)
    rw [show n = -(k : Int) by omega]
    exact isB_is (is_neg k (by omega))
  · obtain ⟨k, rfl⟩ := Int.eq_ofNat_of_zero_le h0
    exact isB_is (is_nat k (by omega))
theorem signed_up (s : Bool) (m u : Nat) : signed s m u = signed s m 0 * 2 ^ u := by
  unfold signed
  simp only [Nat.shiftLeft_eq, Nat.pow_zero, Nat.mul_one]
  split
  · rw [Int.neg_mul, Int.natCast_mul, Int.natCast_pow]; rfl
  · rw [Int.natCast_mul, Int.natCast_pow]; rfl
theorem Is.up {s : Bool} {m : Nat} {p : Int} {n : Int} (hp : p ≤ 0) (h : signed s m 0 = n * 2 ^ (-p).toNat) (base : Int) (hb : base ≤ p) : signed s m (p - base).toNat = n * 2 ^ (-base).toNat := by
  rw [signed_up, h, Int.mul_assoc, ← Int.pow_add, show (-p).toNat + (p - base).toNat = (-base).toNat by omega]
theorem pow_pos2 (k : Nat) : (0 : Int) < 2 ^ k := Int.pow_pos (by decide)
theorem order_is {b c : Nat} {n k : Int} (hb : Is b n) (hc : Is c k) : double.order b c = some (compare n k) := by
  obtain ⟨s, m, p, h1, h2, h3, h4, h5⟩ := hb
  obtain ⟨t, l, q, g1, g2, g3, g4, g5⟩ := hc
  unfold Format.order
  rw [h1, g1]
  simp only [Datum.order]
  rw [Is.up h2 h4 _ (by omega), Is.up g2 g4 _ (by omega)]
  congr 1
  have hpos := pow_pos2 (-(min p q)).toNat
  generalize (2 : Int) ^ (-(min p q)).toNat = K at hpos
  rcases Int.lt_trichotomy n k with h | h | h
  · rw [show compare n k = .lt from Int.compare_eq_lt.2 h]
    exact Int.compare_eq_lt.2 (Int.mul_lt_mul_of_pos_right h hpos)
  · subst h; rw [show compare n n = .eq from Int.compare_eq_eq.2 rfl]
    exact Int.compare_eq_eq.2 rfl
  · rw [show compare n k = .gt from Int.compare_eq_gt.2 h]
    exact Int.compare_eq_gt.2 (Int.mul_lt_mul_of_pos_right h hpos)
theorem mp_ne {m : Nat} (h : m ≠ 0) (K : Nat) : m * 2 ^ K ≠ 0 := Nat.mul_ne_zero h (by have := Nat.two_pow_pos K; omega)
theorem log2_up (m : Nat) (h : m ≠ 0) (K : Nat) : (m * 2 ^ K).log2 = m.log2 + K := by
  induction K with
  | zero => simp
  | succ K ih =>
    rw [Nat.pow_succ, ← Nat.mul_assoc, Nat.mul_comm (m * 2 ^ K) 2, Nat.log2_two_mul (mp_ne h K), ih]
    omega
theorem cut_even (neg : Bool) (c d : Nat) (h0 : c ≠ 0) : Toward.even.cut neg (c * 2 ^ d) d = c := by
  unfold Toward.cut
  rw [log2_up c h0, show min d (c.log2 + d + 2) = d by omega, Nat.one_shiftLeft]
  have hp : 0 < 2 ^ d := Nat.two_pow_pos d
  simp only [Nat.mul_mod_left, Nat.mul_div_left _ hp]
  have h1 : (2 ^ d == 2 * 0) = false := by simp
  have h2 : decide (2 ^ d < 2 * 0) = false := by simp
  rw [h1, h2]
  simp
theorem nearest_up (neg : Bool) (m K : Nat) (hm : m < 4096) (_hK : K ≤ 1074) : double.nearest neg (m * 2 ^ K) (-(K : Int)) = double.nearest neg m 0 := by
  unfold Format.nearest
  by_cases h0 : m = 0
  · simp [h0]
  · have hk0 : m * 2 ^ K ≠ 0 := mp_ne h0 K
    rw [if_neg h0, if_neg hk0, log2_up m h0]
    have hl : m.log2 < 12 := (Nat.log2_lt h0).2 hm
    have hfb : (double.fractionBits : Int) = 52 := rfl
    have hlp : double.leastPlace = -1074 := by decide
    simp only [hfb, hlp]
    rw [show max (-(K : Int) + ((m.log2 + K : Nat) : Int) - 52) (-1074) = (m.log2 : Int) - 52 by omega, show max ((0 : Int) + (m.log2 : Int) - 52) (-1074) = (m.log2 : Int) - 52 by omega]
    obtain ⟨L, hL⟩ : ∃ L : Nat, 52 - m.log2 = L := ⟨_, rfl⟩
    have e1 : (0 - ((m.log2 : Int) - 52)).toNat = L := by omega
    have e2 : ((m.log2 : Int) - 52 - 0).toNat = 0 := by omega
    rw [e1, e2]
    congr 3
    have hz : Toward.even.cut neg (m <<< L) 0 = m * 2 ^ L := by
      have := cut_even neg (m * 2 ^ L) 0 (mp_ne h0 L)
      rw [Nat.shiftLeft_eq]; simpa using this
    rw [hz]
    rcases Nat.lt_or_ge L K with h | h
    · rw [show (-(K : Int) - ((m.log2 : Int) - 52)).toNat = 0 by omega, show ((m.log2 : Int) - 52 - -(K : Int)).toNat = K - L by omega, Nat.shiftLeft_zero,
        show m * 2 ^ K = m * 2 ^ L * 2 ^ (K - L) by rw [Nat.mul_assoc, ← Nat.pow_add, show L + (K - L) = K by omega]]
      exact cut_even neg _ _ (mp_ne h0 L)
    · rw [show (-(K : Int) - ((m.log2 : Int) - 52)).toNat = L - K by omega, show ((m.log2 : Int) - 52 - -(K : Int)).toNat = 0 by omega, Nat.shiftLeft_eq, Nat.mul_assoc, ← Nat.pow_add, show K + (L - K) = L by omega]
      have := cut_even neg (m * 2 ^ L) 0 (mp_ne h0 L)
      simpa using this
theorem sum_is {d e : Datum} {n k : Int} {s m p t l q} (hd : d = .number s m p) (he : e = .number t l q) (h2 : p ≤ 0) (h3 : -1074 ≤ p) (h4 : signed s m 0 = n * 2 ^ (-p).toNat) (g2 : q ≤ 0) (g3 : -1074 ≤ q) (g4 : signed t l 0 = k * 2 ^ (-q).toNat)
    (hz : n + k = 0 → (s && t) = false) (hn : -1100 < n + k ∧ n + k < 1100) : (d.sum e).map double.write = some (F (n + k)) := by
  subst hd he
  simp only [Datum.sum]
  rw [Is.up h2 h4 _ (by omega), Is.up g2 g4 _ (by omega), ← Int.add_mul]
  simp only [Option.map_some, Format.write]
  have hpos := pow_pos2 (-(min p q)).toNat
  obtain ⟨K, hK⟩ : ∃ K : Nat, (-(min p q)).toNat = K := ⟨_, rfl⟩
  rw [hK] at hpos ⊢
  rw [show min p q = -(K : Int) by omega, F_def]
  have hab : ((n + k) * 2 ^ K).natAbs = (n + k).natAbs * 2 ^ K := by
    rw [Int.natAbs_mul, Int.natAbs_pow]; rfl
  rw [hab, nearest_up _ _ _ (by omega) (by omega)]
  congr 2
  rcases Int.lt_trichotomy (n + k) 0 with h | h | h
  · have : (n + k) * 2 ^ K < 0 := Int.mul_neg_of_neg_of_pos h hpos
    rw [if_neg (by omega)]
    simp [this, h]
  · rw [h, Int.zero_mul, if_pos rfl, hz h]; simp
  · have : 0 < (n + k) * 2 ^ K := Int.mul_pos h hpos
    rw [if_neg (by omega)]
    rw [show decide ((n + k) * 2 ^ K < 0) = false by simp; omega, show decide (n + k < 0) = false by simp; omega]
theorem zero_sign {s : Bool} {m : Nat} {p : Int} {n : Int} (h4 : signed s m 0 = n * 2 ^ (-p).toNat) : (m = 0 ↔ n = 0) ∧ (m ≠ 0 → s = decide (n < 0)) := by
  have hpos := pow_pos2 (-p).toNat
  generalize (2 : Int) ^ (-p).toNat = K at hpos h4
  have hs : signed s m 0 = if s then -(m : Int) else (m : Int) := by unfold signed; simp
  rw [hs] at h4
  rcases Int.lt_trichotomy n 0 with h | h | h
  · have := Int.mul_neg_of_neg_of_pos h hpos
    cases s
    · simp only [Bool.false_eq_true, if_false] at h4; omega
    · simp only [if_true] at h4
      refine ⟨by omega, fun _ => by simp [h]⟩
  · subst h
    rw [Int.zero_mul] at h4
    have hm : m = 0 := by cases s <;> simp at h4 <;> omega
    exact ⟨by simp [hm], fun h => absurd hm h⟩
  · have := Int.mul_pos h hpos
    cases s
    · simp only [Bool.false_eq_true, if_false] at h4
      refine ⟨by omega, fun _ => by simp; omega⟩
    · simp only [if_true] at h4; omega
theorem add_is {b c : Nat} {n k : Int} (hb : Is b n) (hc : Is c k) (hn : -1100 < n + k ∧ n + k < 1100) : floatBits .add .f64 b c = some (F (n + k)) := by
  obtain ⟨s, m, p, h1, h2, h3, h4, h5⟩ := hb
  obtain ⟨t, l, q, g1, g2, g3, g4, g5⟩ := hc
  show ((double.read b).sum (double.read c)).map double.write = _
  refine sum_is h1 g1 h2 h3 h4 g2 g3 g4 (fun hz => ?_) hn
  obtain ⟨z1, z2⟩ := zero_sign h4
  obtain ⟨y1, y2⟩ := zero_sign g4
  by_cases hm : m = 0
  · rw [h5 hm]; rfl
  · by_cases hl : l = 0
    · rw [g5 hl, Bool.and_false]
    · rw [z2 hm, y2 hl]
      by_cases hx : n < 0
      · rw [show decide (k < 0) = false by simp; omega, Bool.and_false]
      · rw [show decide (n < 0) = false by simp; omega, Bool.false_and]
theorem sub_is {b c : Nat} {n k : Int} (hb : Is b n) (hc : Is c k) (hn : -1100 < n - k ∧ n - k < 1100) : floatBits .sub .f64 b c = some (F (n - k)) := by
  obtain ⟨s, m, p, h1, h2, h3, h4, h5⟩ := hb
  obtain ⟨t, l, q, g1, g2, g3, g4, g5⟩ := hc
  show ((double.read b).sum (double.read c).opposite).map double.write = _
  have hop : signed (!t) l 0 = (-k) * 2 ^ (-q).toNat := by
    rw [Int.neg_mul, ← g4]
    unfold signed
    cases t <;> simp
  rw [show n - k = n + -k by omega]
  refine sum_is (t := !t) (l := l) (q := q) h1 (by rw [g1]; rfl) h2 h3 h4 g2 g3 hop (fun hz => ?_) (by omega)
  obtain ⟨z1, z2⟩ := zero_sign h4
  obtain ⟨y1, y2⟩ := zero_sign g4
  by_cases hm : m = 0
  · rw [h5 hm]; rfl
  · by_cases hl : l = 0
    · have : n = 0 := by have := y1.1 hl; omega
      exact absurd (z1.2 this) hm
    · rw [z2 hm, y2 hl]
      by_cases hx : n < 0
      · rw [show decide (k < 0) = true by simp; omega]; simp
      · rw [show decide (n < 0) = false by simp; omega]; simp
theorem abs_is (n : Int) (h : -1100 < n ∧ n < 1100) : Go.bits .andNot .u64 (F n : Int) 9223372036854775808 = (F (n.natAbs : Int) : Int) := by
  rcases Int.lt_or_le n 0 with h0 | h0
  · have := (abs_nat n.natAbs (by omega)).2
    rw [show -((n.natAbs : Nat) : Int) = n by omega] at this
    exact this
  · have := (abs_nat n.natAbs (by omega)).1
    rw [show ((n.natAbs : Nat) : Int) = n by omega] at this ⊢
    exact this
theorem toInt_is (n : Int) (h : -1100 < n ∧ n < 1100) : floatToIntVal .f64 (F n) .i64 = some n := by
  rcases Int.lt_or_le n 0 with h0 | h0
  · have := (int_nat n.natAbs (by omega)).2
    rw [show -((n.natAbs : Nat) : Int) = n by omega] at this
    exact this
  · have := (int_nat n.natAbs (by omega)).1
    rw [show ((n.natAbs : Nat) : Int) = n by omega] at this
    exact this
end Go.Proofs.Ytfbjeiloefocgaa.Fl
/-! Contracts of small functions of Go's library: floats that are small whole numbers. -/
namespace Go.Proofs.Ytfbjeiloefocgaa.PL
open Go.RowKit Go.Proofs.Ytfbjeiloefocgaa.Fl
attribute [local go_sem] Oper.semAt_some

theorem call43 (b : Nat) (w : World) : (callFunc 64 #[.float .f64 b]).run Try.prog w = .ok (.value (.int .u64 b)) w :=
  (run_callFunc_extern (P := Try.prog) (f := 64) Try.func64 (by kernel_rfl) (by kernel_rfl) (by kernel_rfl) (e := Extern.MathFloatBits.float64bits) (by kernel_rfl) _ w).trans rfl
theorem call42 (b : Nat) (w : World) : (callFunc 63 #[.int .u64 (b : Int)]).run Try.prog w = .ok (.value (.float .f64 b)) w :=
  (run_callFunc_extern (P := Try.prog) (f := 63) Try.func63 (by kernel_rfl) (by kernel_rfl) (by kernel_rfl) (e := Extern.MathFloatBits.float64frombits) (by kernel_rfl) _ w).trans rfl
theorem trunc_run (n : Nat) (h : n < 1100) (w : World) : (Extern.MathFloor.toIntegral "math.archTrunc" .zero #[.float .f64 (F (n : Int))]).run Try.prog w = .ok (.float .f64 (F (n : Int))) w := by
  have hw := whole_nat n h
  unfold wholeB at hw
  generalize F (n : Int) = b at hw ⊢
  split at hw
  · next s m p hr =>
    have hr' : FloatKind.f64.decode b = .number s m p := hr
    have hb : FloatKind.f64.encode ((Ieee.Datum.number s m p).integral .zero) = b := by
      have : Ieee.double.write ((Ieee.Datum.number s m p).integral .zero) = b := by simpa using hw
      exact this
    have key : Extern.MathFloor.toIntegral "math.archTrunc" .zero #[.float .f64 b] = pure (.float .f64 (FloatKind.f64.encode ((Ieee.Datum.number s m p).integral .zero))) := by
      delta Extern.MathFloor.toIntegral
      conv => lhs; whnf
      first | (rw [hr']; done) | (simp only [hr']; done) | (trace_state; fail)
    rw [key, hb]
    rfl
  · exact absurd hw (by simp)
theorem call50 (n : Nat) (h : n < 1100) (w : World) : (callFunc 75 #[.float .f64 (F (n : Int))]).run Try.prog w = .ok (.value (.float .f64 (F (n : Int)))) w := by
  rw [run_callFunc_extern (P := Try.prog) (f := 75) Try.func75 (by kernel_rfl) (by kernel_rfl) (by kernel_rfl) (e := Extern.MathFloor.toIntegral "math.archTrunc" .zero) (by kernel_rfl) _ w, trunc_run n h w]
  rfl
theorem abs_calls (n : Int) (h : -1100 < n ∧ n < 1100) (w : World) : Calls Try.prog 39 #[.float .f64 (F n)] w fun e w' => e = .returned (.float .f64 (F (n.natAbs : Int))) ∧ w' = w := by
  have ha := abs_is n h
  have h43 := call43 (F n)
  have h42 := call42 (F (n.natAbs : Int))
  go_enter Try.func39, Try.ntmps39
  go_wp2_with (simp only [h43, h42, ha])
  go_ret
  exact ⟨rfl, rfl⟩
theorem nan_calls (n : Int) (h : -1100 < n ∧ n < 1100) (w : World) : Calls Try.prog 61 #[.float .f64 (F n)] w fun e w' => e = .returned (.bool false) ∧ w' = w := by
  have ho : FloatKind.f64.format.order (F n) (F n) = some .eq := by rw [← Int.compare_eq_eq.2 (rfl : n = n)]; exact order_is (is_F n h) (is_F n h)
  go_enter Try.func61, Try.ntmps61
  go_wp2
  go_ret
  exact ⟨by simp, rfl⟩
theorem trunc_calls (n : Nat) (h : n < 1100) (w : World) : Calls Try.prog 62 #[.float .f64 (F (n : Int))] w fun e w' => e = .returned (.float .f64 (F (n : Int))) ∧ w' = w := by
  have h50 := call50 n h
  go_enter Try.func62, Try.ntmps62
  go_wp2_with (simp only [h50])
  go_ret
  exact ⟨rfl, rfl⟩
end Go.Proofs.Ytfbjeiloefocgaa.PL
/-! Contracts of the package place: which places are plain, where a block lies. -/
namespace Go.Proofs.Ytfbjeiloefocgaa.PL
open Go.RowKit Go.Proofs.Ytfbjeiloefocgaa.Fl Go.Proofs.YtfbjeiloefocgaaW.PrintWords Go.Proofs.YtfbjeiloefocgaaW.PrintLast Go.Proofs.YtfbjeiloefocgaaW.PrintMore
attribute [local go_sem] Oper.semAt_some
theorem far_is : Is 4697254411347427328 1048576 := isB_is (by decide +kernel)
theorem order_self (n : Int) (h : -1100 < n ∧ n < 1100) : FloatKind.f64.format.order (F n) (F n) = some .eq := by
  rw [← Int.compare_eq_eq.2 (rfl : n = n)]; exact order_is (is_F n h) (is_F n h)
theorem order_far (n : Int) (h : -1100 < n ∧ n < 1100) : FloatKind.f64.format.order (F n) 4697254411347427328 = some .lt := by
  rw [← Int.compare_eq_lt.2 (show n < 1048576 by omega)]; exact order_is (is_F n h) far_is
theorem index_two (x y : Nat) (W : World) : (Instr.index 90 (.agg #[.float .f64 x, .float .f64 y]) (.int .i64 0)).run Try.prog W = .ok (.float .f64 x) W ∧ (Instr.index 90 (.agg #[.float .f64 x, .float .f64 y]) (.int .i64 1)).run Try.prog W = .ok (.float .f64 y) W := ⟨by kernel_rfl, by kernel_rfl⟩
set_option maxRecDepth 100000 in
set_option maxHeartbeats 1000000 in
theorem plain_calls (a b : Nat) (ha : a < 1100) (hb : b < 1100) (w : World) : Calls Try.prog 38 #[.complex .f64 (F (a : Int)) (F (b : Int))] w fun e w' => e = .returned (.bool true) ∧ w' = w := by
  have hx0 := fun W => (index_two (F (a : Int)) (F (b : Int)) W).1
  have hx1 := fun W => (index_two (F (a : Int)) (F (b : Int)) W).2
  go_enter Try.func38, Try.ntmps38
  go_wp2; go_step3; go_wp2
  go_loopg [10] 2 (fun kq v10 w' => ∃ i : Nat, i + kq = 2 ∧ v10 = .int .i64 (i : Int) ∧ w' = w)
  case atStart => exact ⟨0, rfl, rfl, rfl⟩
  case round =>
    obtain ⟨i, hi, rfl, rfl⟩ := hrel
    have one : ∀ n : Nat, n < 1100 → (FloatKind.f64.format.order (F (n : Int)) (F (n : Int)) != some .eq) = false ∧ (FloatKind.f64.format.order (F (n : Int)) 4697254411347427328 == some .gt) = false := fun n hn => ⟨by rw [order_self n (by omega)]; rfl, by rw [order_far n (by omega)]; rfl⟩
    cases gk with
    | zero =>
      obtain rfl : i = 2 := by omega
      go_wp2
      go_ret
      exact ⟨rfl, rfl⟩
    | succ k1 =>
      rcases (show i = 0 ∨ i = 1 by omega) with rfl | rfl
      · have o1 := (one a ha).1
        have o2 := (one a ha).2
        go_wp2_with (first | (go_at_call 61; refine (nan_calls (a : Int) (by omega) _).mono ?_; rintro e w' ⟨rfl, rfl⟩) | (go_at_call 39; refine (abs_calls (a : Int) (by omega) _).mono ?_; rintro e w' ⟨rfl, rfl⟩) | (go_at_call 62; refine (trunc_calls a ha _).mono ?_; rintro e w' ⟨rfl, rfl⟩) | (simp only []))
        go_roundg k1
        all_goals first | exact ⟨1, by omega, rfl, rfl⟩ | omega | trace_state
      · have o1 := (one b hb).1
        have o2 := (one b hb).2
        go_wp2_with (first | (go_at_call 61; refine (nan_calls (b : Int) (by omega) _).mono ?_; rintro e w' ⟨rfl, rfl⟩) | (go_at_call 39; refine (abs_calls (b : Int) (by omega) _).mono ?_; rintro e w' ⟨rfl, rfl⟩) | (go_at_call 62; refine (trunc_calls b hb _).mono ?_; rintro e w' ⟨rfl, rfl⟩) | (simp only []))
        go_roundg k1
        all_goals first | exact ⟨2, by omega, rfl, rfl⟩ | omega | trace_state
end Go.Proofs.Ytfbjeiloefocgaa.PL
/-! Contracts of the package place: where a block lies. -/
namespace Go.Proofs.Ytfbjeiloefocgaa.PL
open Go.RowKit Go.Proofs.Ytfbjeiloefocgaa.Fl Go.Proofs.YtfbjeiloefocgaaW.PrintWords Go.Proofs.YtfbjeiloefocgaaW.PrintLast Go.Proofs.YtfbjeiloefocgaaW.PrintMore
attribute [local go_sem] Oper.semAt_some
theorem at_calls (b p : Nat) (hb : b < 1024) (hp : 1 ≤ p ∧ p ≤ 64) (w : World) : Calls Try.prog 37 #[.int .i64 (b : Int), .int .i64 (p : Int)] w fun e w' => e = .returned (.complex .f64 (F ((b / p : Nat) : Int)) (F ((b % p : Nat) : Int))) ∧ Drawn0 w w' := by
  have hz : decide ((p : Int) = 0) = false := by simp; omega
  have hw : wrap64 ((b : Int) / (p : Int)) = ((b / p : Nat) : Int) := by
    have : ((b / p : Nat) : Int) = (b : Int) / (p : Int) := Int.natCast_ediv b p
    have h2 : b / p ≤ b := Nat.div_le_self b p
    rw [← this]
    generalize b / p = q at h2
    unfold wrap64; omega
  go_enter Try.func37, Try.ntmps37
  go_wp2
  repeat (go_quiet (fail); try go_wp2)
  go_ret
  refine ⟨?_, by repeat (first | exact Drawn0.refl _ | apply Drawn0.step)⟩
  rw [← F_eq, ← F_eq, Int.natCast_ediv, Int.natCast_emod]
  rfl
end Go.Proofs.Ytfbjeiloefocgaa.PL
/-! Contracts of the package place: which blocks and tracks there may be. -/
namespace Go.Proofs.Ytfbjeiloefocgaa.PL
open Go.RowKit Go.Proofs.Ytfbjeiloefocgaa.Fl Go.Proofs.YtfbjeiloefocgaaW.PrintWords Go.Proofs.YtfbjeiloefocgaaW.PrintLast Go.Proofs.YtfbjeiloefocgaaW.PrintMore
attribute [local go_sem] Oper.semAt_some
/-- No block. -/
def bad (x : Int) : Bool := decide (x < 0) || decide (x ≥ 1024)
theorem bad_calls (x : Int) (w : World) : Calls Try.prog 60 #[.int .i64 x] w fun e w' => e = .returned (.bool (bad x)) ∧ w' = w := by
  unfold bad
  by_cases h : x < 0
  · have h0 : decide (x < 0) = true := by simp [h]
    go_enter Try.func60, Try.ntmps60
    go_wp2
    go_ret
    exact ⟨by simp [h], rfl⟩
  · have h0 : decide (x < 0) = false := by simp; omega
    go_enter Try.func60, Try.ntmps60
    go_wp2
    go_ret
    exact ⟨by simp, rfl⟩
set_option maxRecDepth 100000 in
set_option maxHeartbeats 1000000 in
theorem idx_calls (A : Option Addr) (c : Nat) (l : List Int) (w : World) (hC : Kd.C (Kd.int .i64) w A l.length l) (hn : l.length < 140737488355328) : Calls Try.prog 74 #[.slice A l.length c, .func (.func 60) #[] #[]] w fun e w' => (∃ i : Int, e = .returned (.int .i64 i) ∧ decide (0 ≤ i) = l.any bad) ∧ w' = w := by
  have HC := Aside0.mk hC
  clear hC
  go_enter Try.func74, Try.ntmps74
  go_wp2
  go_loopg [8] l.length (fun kq v8 w' => ∃ i : Nat, i + kq = l.length ∧ v8 = .int .i64 (i : Int) ∧ Aside0 ((l.take i).any bad = false) ∧ w' = w)
  case atStart => exact ⟨0, by simp, rfl, ⟨by simp⟩, rfl⟩
  case round =>
    obtain ⟨i, hi, rfl, hA, rfl⟩ := hrel
    cases gk with
    | zero =>
      obtain rfl : i = l.length := by omega
      have hA' := hA.out
      rw [List.take_length] at hA'
      clear hA
      go_wp2
      go_ret
      exact ⟨⟨_, rfl, by rw [hA']; rfl⟩, rfl⟩
    | succ k1 =>
      have hlt : i < l.length := by omega
      have c0 : decide ((i : Int) < (l.length : Int)) = true := by simp; omega
      have p123 : 0 ≤ (i : Int) := by omega
      have q123 : (i : Int) < (l.length : Int) := by omega
      obtain ⟨ad, e, hx⟩ := Kd.at_int HC.out (i : Int) p123 q123
      cases e
      have hrd : rd l (i : Int) = l[i] := by simp [rd, List.getD_eq_getElem?_getD, hlt]
      rw [hrd, Int.toNat_natCast] at hx
      have hw : wrap64 ((i : Int) + 1) = ((i + 1 : Nat) : Int) := by unfold wrap64; omega
      have htk : (l.take (i + 1)).any bad = bad l[i] := by
        rw [List.take_succ_eq_append_getElem hlt, List.any_append, hA.out]; simp
      replace p123 := eq_true p123
      replace q123 := eq_true q123
      cases hb : bad l[i] with
      | true =>
        have hany : l.any bad = true := by
          rw [List.any_eq_true]; exact ⟨l[i], List.getElem_mem hlt, hb⟩
        go_wp2_with (go_at_call 60; refine (bad_calls l[i] _).mono ?_; rintro e w' ⟨rfl, rfl⟩)
        go_ret
        exact ⟨⟨_, rfl, by rw [hany]; simp⟩, rfl⟩
      | false =>
        rw [hb] at htk
        go_wp2_with (go_at_call 60; refine (bad_calls l[i] _).mono ?_; rintro e w' ⟨rfl, rfl⟩)
        go_roundg k1
        case rel => exact ⟨i + 1, by omega, by first | rfl | rw [hw], ⟨htk⟩, rfl⟩
        all_goals omega
end Go.Proofs.Ytfbjeiloefocgaa.PL
/-! Contracts of the package place: may, At, Way. -/
namespace Go.Proofs.Ytfbjeiloefocgaa.PL
open Go.RowKit Go.Proofs.Ytfbjeiloefocgaa.Fl Go.Proofs.YtfbjeiloefocgaaW.PrintWords Go.Proofs.YtfbjeiloefocgaaW.PrintLast Go.Proofs.YtfbjeiloefocgaaW.PrintMore
attribute [local go_sem] Oper.semAt_some
theorem contains_calls (A : Option Addr) (c : Nat) (l : List Int) (w : World) (hC : Kd.C (Kd.int .i64) w A l.length l) (hn : l.length < 140737488355328) : Calls Try.prog 59 #[.slice A l.length c, .func (.func 60) #[] #[]] w fun e w' => e = .returned (.bool (l.any bad)) ∧ w' = w := by
  have HC := Aside0.mk hC
  clear hC
  go_enter Try.func59, Try.ntmps59
  go_wp2_with (go_at_call 74; refine (idx_calls A c l _ HC.out hn).mono ?_; rintro e w' ⟨⟨i, rfl, hi⟩, rfl⟩)
  go_ret
  exact ⟨by rw [← hi]; first | rfl | simp, rfl⟩
/-- There are such blocks, on such tracks. -/
def mayB (p : Int) (l : List Int) : Bool := decide (p ≥ 1) && decide (p ≤ 64) && !l.any bad
theorem may_calls (p : Int) (A : Option Addr) (c : Nat) (l : List Int) (w : World) (hC : Kd.C (Kd.int .i64) w A l.length l) (hn : l.length < 140737488355328) : Calls Try.prog 36 #[.int .i64 p, .slice A l.length c] w fun e w' => e = .returned (.bool (mayB p l)) ∧ w' = w := by
  have HC := Aside0.mk hC
  clear hC
  unfold mayB
  by_cases h1 : p ≥ 1
  · have b1 : decide (1 ≤ p) = true := by simp; omega
    by_cases h2 : p ≤ 64
    · have b2 : decide (p ≤ 64) = true := by simp; omega
      go_enter Try.func36, Try.ntmps36
      go_wp2_with (go_at_call 59; refine (contains_calls A c l _ HC.out hn).mono ?_; rintro e w' ⟨rfl, rfl⟩)
      go_ret
      exact ⟨by simp [h1, h2], rfl⟩
    · have b2 : decide (p ≤ 64) = false := by simp; omega
      go_enter Try.func36, Try.ntmps36
      go_wp2_with (fail)
      go_ret
      exact ⟨by simp, rfl⟩
  · have b1 : decide (1 ≤ p) = false := by simp; omega
    go_enter Try.func36, Try.ntmps36
    go_wp2_with (fail)
    go_ret
    exact ⟨by simp, rfl⟩
end Go.Proofs.Ytfbjeiloefocgaa.PL
/-! Contracts of the package place: At, Way. -/
namespace Go.Proofs.Ytfbjeiloefocgaa.PL
open Go.RowKit Go.Proofs.Ytfbjeiloefocgaa.Fl Go.Proofs.YtfbjeiloefocgaaW.PrintWords Go.Proofs.YtfbjeiloefocgaaW.PrintLast Go.Proofs.YtfbjeiloefocgaaW.PrintMore
attribute [local go_sem] Oper.semAt_some
/-- How far it is from place to place. -/
def apartN (a b c d : Nat) : Nat := ((a : Int) - c).natAbs + ((b : Int) - d).natAbs
set_option maxRecDepth 100000 in
set_option maxHeartbeats 2000000 in
theorem Way_calls (a b c d : Nat) (ha : a < 1024) (hb : b < 64) (hc : c < 1024) (hd : d < 64) (w : World) : Calls Try.prog 17 #[.complex .f64 (F (a : Int)) (F (b : Int)), .complex .f64 (F (c : Int)) (F (d : Int))] w fun e w' => e = .returned (.int .i64 (apartN a b c d : Int)) ∧ w' = w := by
  have s1 := sub_is (is_F (a : Int) (by omega)) (is_F (c : Int) (by omega)) (by omega)
  have s2 := sub_is (is_F (b : Int) (by omega)) (is_F (d : Int) (by omega)) (by omega)
  have hs : cSumBits .sub .f64 (F (a : Int)) (F (b : Int)) (F (c : Int)) (F (d : Int)) = some (F ((a : Int) - c), F ((b : Int) - d)) := by
    unfold cSumBits
    rw [s1, s2]
    rfl
  have hop : ∀ t W, (binOp .sub t (.complex .f64 (F (a : Int)) (F (b : Int))) (.complex .f64 (F (c : Int)) (F (d : Int)))).run Try.prog W = .ok (.complex .f64 (F ((a : Int) - c)) (F ((b : Int) - d))) W := fun t W => run_complex_sum W .sub (.inr rfl) t .f64 _ _ _ _ _ _ hs
  have hsum : floatBits .add .f64 (F (((a : Int) - c).natAbs : Int)) (F (((b : Int) - d).natAbs : Int)) = some (F ((apartN a b c d : Nat) : Int)) := by
    have := add_is (is_F (((a : Int) - c).natAbs : Int) (by omega)) (is_F (((b : Int) - d).natAbs : Int) (by omega)) (by omega)
    rw [this]
    congr 2
  have hadd : ∀ t W, (binOp .add t (.float .f64 (F (((a : Int) - c).natAbs : Int))) (.float .f64 (F (((b : Int) - d).natAbs : Int)))).run Try.prog W = .ok (.float .f64 (F ((apartN a b c d : Nat) : Int))) W := fun t W => run_float_arith W .add t .f64 _ _ _ hsum
  have hti : floatToIntVal .f64 (F ((apartN a b c d : Nat) : Int)) .i64 = some ((apartN a b c d : Nat) : Int) := toInt_is _ (by unfold apartN; omega)
  have hcv : ∀ W, (convert 74 3 (.float .f64 (F ((apartN a b c d : Nat) : Int)))).run Try.prog W = .ok (.int .i64 ((apartN a b c d : Nat) : Int)) W := fun W => run_convert_float_int W 74 3 .f64 .i64 _ _ (by rw [Try.underlying74]; rfl) Try.underlying3 hti
  generalize (F ((apartN a b c d : Nat) : Int)) = fz at hadd hcv
  clear hsum hti hs s1 s2
  go_enter Try.func17, Try.ntmps17
  go_wp2_with (first | (go_at_call 38; first | (with_reducible refine (plain_calls a b (by omega) (by omega) _).mono ?_; rintro e w' ⟨rfl, rfl⟩) | (with_reducible refine (plain_calls c d (by omega) (by omega) _).mono ?_; rintro e w' ⟨rfl, rfl⟩)) | (go_at_call 39; first | (with_reducible refine (abs_calls ((a : Int) - c) (by omega) _).mono ?_; rintro e w' ⟨rfl, rfl⟩) | (with_reducible refine (abs_calls ((b : Int) - d) (by omega) _).mono ?_; rintro e w' ⟨rfl, rfl⟩)) | (simp only []))
  go_ret
  exact ⟨rfl, rfl⟩
end Go.Proofs.Ytfbjeiloefocgaa.PL
/-! Contracts of the package place: At. -/
namespace Go.Proofs.Ytfbjeiloefocgaa.PL
open Go.RowKit Go.Proofs.Ytfbjeiloefocgaa.Fl Go.Proofs.YtfbjeiloefocgaaW.PrintWords Go.Proofs.YtfbjeiloefocgaaW.PrintLast Go.Proofs.YtfbjeiloefocgaaW.PrintMore
attribute [local go_sem] Oper.semAt_some
/-- What At answers: the place's parts, the error. -/
def atV (b p : Int) : Nat × Nat × Int := if mayB p [b] = true then (F (((b.toNat / p.toNat) : Nat) : Int), F (((b.toNat % p.toNat) : Nat) : Int), 0) else (0, 0, 2)
theorem may_one {b p : Int} (h : mayB p [b] = true) : 0 ≤ b ∧ b < 1024 ∧ 1 ≤ p ∧ p ≤ 64 := by
  simp [mayB, bad] at h
  omega
set_option maxRecDepth 100000 in
set_option maxHeartbeats 1000000 in
theorem At_calls (b p : Int) (w : World) : Calls Try.prog 16 #[.int .i64 b, .int .i64 p] w fun e w' => e = .returned (.tuple #[.complex .f64 (atV b p).1 (atV b p).2.1, .int .i64 (atV b p).2.2]) ∧ Below w.heap.size w w' := by
  have HB := Aside0.mk (Below.refl w.heap.size w)
  unfold atV
  cases hm : mayB p [b] with
  | true =>
    obtain ⟨h0, h1, h2, h3⟩ := may_one hm
    obtain ⟨n, rfl⟩ := Int.eq_ofNat_of_zero_le h0
    obtain ⟨q, rfl⟩ := Int.eq_ofNat_of_zero_le (show 0 ≤ p by omega)
    rw [if_pos rfl]
    go_enter Try.func16, Try.ntmps16
    go_wp2_with (first | ((with_reducible refine gate_dst (N := 8) rfl ?_); refine Kd.R_lit (Kd.int .i64) _ 3 ?hg (N := 8) ?hd (xs := ([(n : Int)] : List Int)) (inner := [.int .i64 (n : Int)]) (ok := fun _ => True) (okp := fun _ => True) ?hr ?hp (fun _ hk => hk) trivial (Below.refl _ _) (Nat.le_refl _) (by simp) ?_; (case hd => rfl); (case hg => rfl); (case hr => first | (go_simp; done) | (go_simp; rfl)); (case hp => exact (Reps.one (show Kd.M (Kd.int .i64) _ _ _ (n : Int) [.int .i64 (n : Int)] from rfl) (Reps.none _ _))); intro v1 w1 ho1 hb1 hg_ hnew_; clear hg_ hnew_; obtain ⟨A1, c1, e1⟩ := Kd.R_slice ho1; subst e1) | (go_at_call 36; go_loud (refine (may_calls (q : Int) A1 c1 [(n : Int)] _ (Kd.R_reads' ho1).2.2 (by simp)).mono ?_; rw [hm]; rintro e w' ⟨rfl, rfl⟩)) | (go_at_call 37; with_reducible refine (at_calls n q (by omega) (by omega) _).mono ?_; rintro e w' ⟨rfl, hdr⟩))
    go_ret2

    exact ⟨rfl, below_step hb1 hdr.below⟩
  | false =>
    rw [if_neg (by simp)]
    go_enter Try.func16, Try.ntmps16
    go_wp2_with (first | ((with_reducible refine gate_dst (N := 8) rfl ?_); refine Kd.R_lit (Kd.int .i64) _ 3 ?hg (N := 8) ?hd (xs := ([b] : List Int)) (inner := [.int .i64 b]) (ok := fun _ => True) (okp := fun _ => True) ?hr ?hp (fun _ hk => hk) trivial (Below.refl _ _) (Nat.le_refl _) (by simp) ?_; (case hd => rfl); (case hg => rfl); (case hr => first | (go_simp; done) | (go_simp; rfl)); (case hp => exact (Reps.one (show Kd.M (Kd.int .i64) _ _ _ b [.int .i64 b] from rfl) (Reps.none _ _))); intro v1 w1 ho1 hb1 hg_ hnew_; clear hg_ hnew_; obtain ⟨A1, c1, e1⟩ := Kd.R_slice ho1; subst e1) | (go_at_call 36; go_loud (refine (may_calls p A1 c1 [b] _ (Kd.R_reads' ho1).2.2 (by simp)).mono ?_; rw [hm]; rintro e w' ⟨rfl, rfl⟩)))
    go_ret2
    exact ⟨rfl, hb1⟩
end Go.Proofs.Ytfbjeiloefocgaa.PL
/-! Contracts of the package place: Route. -/
namespace Go.Proofs.Ytfbjeiloefocgaa.PL
open Go.RowKit Go.Proofs.Ytfbjeiloefocgaa.Fl Go.Proofs.YtfbjeiloefocgaaW.PrintWords Go.Proofs.YtfbjeiloefocgaaW.PrintLast Go.Proofs.YtfbjeiloefocgaaW.PrintMore
attribute [local go_sem] Oper.semAt_some
def X (b p : Int) : Nat := F (((b.toNat / p.toNat) : Nat) : Int)
def Y (b p : Int) : Nat := F (((b.toNat % p.toNat) : Nat) : Int)
/-- How far it is from block to block. -/
def wayI (a b p : Int) : Int := (apartN (a.toNat / p.toNat) (a.toNat % p.toNat) (b.toNat / p.toNat) (b.toNat % p.toNat) : Nat)
/-- A block that there is. -/
def Bl (b : Int) : Prop := 0 ≤ b ∧ b < 1024
def Tr (p : Int) : Prop := 1 ≤ p ∧ p ≤ 64
theorem not_bad {b : Int} (h : bad b = false) : Bl b := by simp [bad] at h; exact ⟨by omega, by omega⟩
theorem may_all {p : Int} {l : List Int} (h : mayB p l = true) : Tr p ∧ ∀ b ∈ l, Bl b := by
  simp only [mayB, Bool.and_eq_true, decide_eq_true_eq, Bool.not_eq_true'] at h
  refine ⟨⟨h.1.1, h.1.2⟩, fun b hb => not_bad ?_⟩
  have := h.2
  rw [List.any_eq_false] at this
  simpa using this b hb
theorem at_int (b p : Int) (hb : Bl b) (hp : Tr p) (W : World) : Calls Try.prog 37 #[.int .i64 b, .int .i64 p] W fun e w' => e = .returned (.complex .f64 (X b p) (Y b p)) ∧ Drawn0 W w' := by
  obtain ⟨n, rfl⟩ := Int.eq_ofNat_of_zero_le hb.1
  obtain ⟨q, rfl⟩ := Int.eq_ofNat_of_zero_le (show 0 ≤ p by have := hp.1; omega)
  exact at_calls n q (by have := hb.2; omega) (by have := hp.1; have := hp.2; omega) W
theorem parts {b p : Int} (hb : Bl b) (hp : Tr p) : b.toNat / p.toNat < 1024 ∧ b.toNat % p.toNat < 64 := by
  obtain ⟨n, rfl⟩ := Int.eq_ofNat_of_zero_le hb.1
  obtain ⟨q, rfl⟩ := Int.eq_ofNat_of_zero_le (show 0 ≤ p by have := hp.1; omega)
  have h0 := hb.2
  have h1 := hp.1
  have h2 := hp.2
  have h3 : n % q < q := Nat.mod_lt _ (by omega)
  have h4 := Nat.div_le_self n q
  simp only [Int.toNat_natCast]
  omega
theorem way_int (a b p : Int) (ha : Bl a) (hb : Bl b) (hp : Tr p) (W : World) : Calls Try.prog 17 #[.complex .f64 (X a p) (Y a p), .complex .f64 (X b p) (Y b p)] W fun e w' => e = .returned (.int .i64 (wayI a b p)) ∧ w' = W := by
  have h1 := parts ha hp
  have h2 := parts hb hp
  exact Way_calls _ _ _ _ h1.1 h1.2 h2.1 h2.2 W
theorem wayI_le (a b p : Int) (ha : Bl a) (hb : Bl b) (hp : Tr p) : 0 ≤ wayI a b p ∧ wayI a b p ≤ 1086 := by
  have h1 := parts ha hp
  have h2 := parts hb hp
  unfold wayI apartN
  generalize a.toNat / p.toNat = m1 at h1 ⊢
  generalize a.toNat % p.toNat = m2 at h1 ⊢
  generalize b.toNat / p.toNat = m3 at h2 ⊢
  generalize b.toNat % p.toNat = m4 at h2 ⊢
  omega
theorem may_lit (p a : Int) (A : Option Addr) (c : Nat) (W : World) (h : Kd.C (Kd.int .i64) W A [a].length [a]) : Calls Try.prog 36 #[.int .i64 p, .slice A 1 c] W fun e w' => e = .returned (.bool (mayB p [a])) ∧ w' = W := may_calls p A c [a] W h (by simp)
end Go.Proofs.Ytfbjeiloefocgaa.PL
