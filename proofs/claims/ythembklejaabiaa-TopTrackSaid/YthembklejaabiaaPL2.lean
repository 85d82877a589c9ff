import Derived.Test.YthembklejaabiaaPL0
import Derived.WalkMore
import Derived.Test.YthembklejaabiaaWMore
/-! Contracts of the package place: where a block lies. -/
namespace Go.Proofs.Ythembklejaabiaa.PL
open Go.RowKit Go.Proofs.Ythembklejaabiaa.Fl Go.Proofs.YthembklejaabiaaW.PrintWords Go.Proofs.YthembklejaabiaaW.PrintLast Go.Proofs.YthembklejaabiaaW.PrintMore
attribute [local go_sem] Oper.semAt_some
theorem far_is : Is 4697254411347427328 1048576 := isB_is (by decide +kernel)
theorem order_self (n : Int) (h : -1100 < n ∧ n < 1100) : FloatKind.f64.format.order (F n) (F n) = some .eq := by
  rw [← Int.compare_eq_eq.2 (rfl : n = n)]; exact order_is (is_F n h) (is_F n h)
theorem order_far (n : Int) (h : -1100 < n ∧ n < 1100) : FloatKind.f64.format.order (F n) 4697254411347427328 = some .lt := by
  rw [← Int.compare_eq_lt.2 (show n < 1048576 by omega)]; exact order_is (is_F n h) far_is
theorem at_calls (b p : Nat) (hb : b < 1024) (hp : 1 ≤ p ∧ p ≤ 64) (w : World) : Calls Try.prog 27 #[.int .i64 (b : Int), .int .i64 (p : Int)] w fun e w' => e = .returned (.complex .f64 (F ((b / p : Nat) : Int)) (F ((b % p : Nat) : Int))) ∧ Drawn0 w w' := by
  have hz : decide ((p : Int) = 0) = false := by simp; omega
  have hw : wrap64 ((b : Int) / (p : Int)) = ((b / p : Nat) : Int) := by
    have : ((b / p : Nat) : Int) = (b : Int) / (p : Int) := Int.natCast_ediv b p
    have h2 : b / p ≤ b := Nat.div_le_self b p
    rw [← this]
    generalize b / p = q at h2
    unfold wrap64; omega
  go_enter Try.func27, Try.ntmps27
  go_wp2
  repeat (go_quiet (fail); try go_wp2)
  go_ret
  refine ⟨?_, by repeat (first | exact Drawn0.refl _ | apply Drawn0.step)⟩
  rw [← F_eq, ← F_eq, Int.natCast_ediv, Int.natCast_emod]
  rfl
end Go.Proofs.Ythembklejaabiaa.PL
