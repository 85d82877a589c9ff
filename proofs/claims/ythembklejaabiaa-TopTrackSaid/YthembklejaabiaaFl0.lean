import Derived.WalkLawsBesides
/-! Floats that are small whole numbers: tables. -/
namespace Go.Proofs.Ythembklejaabiaa.Fl
open Ieee
/-- The float of a whole number. -/
def F (n : Int) : Nat := floatOfInt .f64 n
/-- A word stands for a whole number (a zero of it is +0, what is below one is told apart). -/
def Is (b : Nat) (n : Int) : Prop := ∃ s m p, double.read b = .number s m p ∧ p ≤ 0 ∧ -1074 ≤ p ∧ signed s m 0 = n * 2 ^ (-p).toNat ∧ (m = 0 → s = false)
def isB (b : Nat) (n : Int) : Bool := match double.read b with
  | .number s m p => decide (p ≤ 0) && decide (-1074 ≤ p) && decide (signed s m 0 = n * 2 ^ (-p).toNat) && (decide (m ≠ 0) || !s)
  | _ => false
theorem isB_is {b : Nat} {n : Int} (h : isB b n = true) : Is b n := by
  unfold isB at h
  split at h
  · next s m p hr =>
    simp only [Bool.and_eq_true, decide_eq_true_eq, Bool.or_eq_true, Bool.not_eq_true'] at h
    obtain ⟨⟨⟨h1, h2⟩, h3⟩, h4⟩ := h
    exact ⟨s, m, p, hr, h1, h2, h3, fun h0 => h4.resolve_left (fun hh => hh h0)⟩
  · exact absurd h (by simp)
theorem is_nat : ∀ n : Nat, n < 1100 → isB (F (n : Int)) (n : Int) = true := by decide +kernel
theorem is_neg : ∀ n : Nat, n < 1100 → isB (F (-(n : Int))) (-(n : Int)) = true := by decide +kernel
theorem abs_nat : ∀ n : Nat, n < 1100 → Go.bits .andNot .u64 (F (n : Int) : Int) 9223372036854775808 = (F (n : Int) : Int) ∧ Go.bits .andNot .u64 (F (-(n : Int)) : Int) 9223372036854775808 = (F (n : Int) : Int) := by decide +kernel
theorem int_nat : ∀ n : Nat, n < 1100 → floatToIntVal .f64 (F (n : Int)) .i64 = some (n : Int) ∧ floatToIntVal .f64 (F (-(n : Int))) .i64 = some (-(n : Int)) := by decide +kernel
/-- A word that stays as it is when its part behind the point goes. -/
def wholeB (b : Nat) : Bool := match double.read b with
  | .number s m p => double.write ((Datum.number s m p).integral .zero) == b
  | _ => false
theorem whole_nat : ∀ n : Nat, n < 1100 → wholeB (F (n : Int)) = true := by decide +kernel
theorem F_def (n : Int) : F n = double.nearest (decide (n < 0)) n.natAbs 0 := rfl
theorem F_eq (n : Int) : floatOfInt .f64 n = F n := rfl
attribute [irreducible] F
end Go.Proofs.Ythembklejaabiaa.Fl
