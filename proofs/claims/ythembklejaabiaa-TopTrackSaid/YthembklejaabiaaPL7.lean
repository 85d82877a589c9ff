import Derived.Test.YthembklejaabiaaPL5
import Derived.Test.YthembklejaabiaaPL6
/-! Contracts of the package place: Turn (once, of one place); what must be whatever is asked. -/
namespace Go.Proofs.Ythembklejaabiaa.PL
open Go.RowKit Go.Proofs.Ythembklejaabiaa.Fl Go.Proofs.YthembklejaabiaaW.PrintWords Go.Proofs.YthembklejaabiaaW.PrintLast Go.Proofs.YthembklejaabiaaW.PrintMore
attribute [local go_sem] Oper.semAt_some
theorem F0 : F ((0 : Nat) : Int) = 0 := by rw [F_def]; decide +kernel
theorem F1 : F ((1 : Nat) : Int) = 4607182418800017408 := by rw [F_def]; decide +kernel
theorem F2 : F ((2 : Nat) : Int) = 4611686018427387904 := by rw [F_def]; decide +kernel
theorem F3 : F ((3 : Nat) : Int) = 4613937818241073152 := by rw [F_def]; decide +kernel
theorem F4 : F ((4 : Nat) : Int) = 4616189618054758400 := by rw [F_def]; decide +kernel
theorem quarter : cMulBits 4607182418800017408 0 0 4607182418800017408 = some (0, 4607182418800017408) := by decide +kernel
set_option maxRecDepth 100000 in
set_option maxHeartbeats 1000000 in
theorem Turn_one (w : World) : Calls Try.prog 28 #[.complex .f64 4607182418800017408 0, .int .i64 1] w fun e w' => e = .returned (.complex .f64 0 4607182418800017408) ∧ w' = w := by
  have hp : ∀ W : World, Calls Try.prog 29 #[.complex .f64 4607182418800017408 0] W fun e w' => e = .returned (.bool true) ∧ w' = W := fun W => by
    have := plain_calls 1 0 (by omega) (by omega) W
    rw [F1, F0] at this
    exact this
  have hm : ∀ t W, (binOp .mul t (.complex .f64 4607182418800017408 0) (.complex .f64 0 4607182418800017408)).run Try.prog W = .ok (.complex .f64 0 4607182418800017408) W := fun t W => run_complex_mul W t _ _ _ _ _ _ quarter
  go_enter Try.func28, Try.ntmps28
  go_wp2_with (go_at_call 29; with_reducible refine (hp _).mono ?_; rintro e w2 ⟨rfl, rfl⟩)
  go_loopg [0, 12] 1 (fun kq v0 v12 w' => ((kq = 1 ∧ v12 = .int .i64 0 ∧ v0 = .complex .f64 4607182418800017408 0) ∨ (kq = 0 ∧ v12 = .int .i64 1 ∧ v0 = .complex .f64 0 4607182418800017408)) ∧ w' = w2)
  case atStart => exact ⟨.inl ⟨rfl, rfl, rfl⟩, rfl⟩
  case round =>
    obtain ⟨⟨hk, rfl, rfl⟩ | ⟨hk, rfl, rfl⟩, rfl⟩ := hrel
    · subst hk
      go_wp2_with (simp only [hm])
      go_roundg 0
      case rel => exact ⟨.inr ⟨rfl, rfl, rfl⟩, rfl⟩
      all_goals omega
    · subst hk
      go_wp2
      go_ret
      exact ⟨rfl, rfl⟩
end Go.Proofs.Ythembklejaabiaa.PL
