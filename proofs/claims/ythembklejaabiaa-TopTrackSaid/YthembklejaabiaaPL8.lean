import Derived.Test.YthembklejaabiaaPL7
/-! What must be whatever is asked: it is. -/
namespace Go.Proofs.Ythembklejaabiaa.PL
open Go.RowKit Go.Proofs.Ythembklejaabiaa.Fl Go.Proofs.YthembklejaabiaaW.PrintWords Go.Proofs.YthembklejaabiaaW.PrintLast Go.Proofs.YthembklejaabiaaW.PrintMore
attribute [local go_sem] Oper.semAt_some
set_option maxRecDepth 100000 in
set_option maxHeartbeats 1000000 in
theorem live_calls (w : World) : Calls Try.prog 11 #[] w fun e w' => e = .returned (.bool true) ∧ Below w.heap.size w w' := by
  have hAt : ∀ W : World, Calls Try.prog 10 #[.int .i64 13, .int .i64 5] W fun e w' => e = .returned (.tuple #[.complex .f64 4611686018427387904 4613937818241073152, .int .i64 0]) ∧ Below W.heap.size W w' := fun W => by
    have := At_calls 13 5 W
    have e : atV 13 5 = (4611686018427387904, 4613937818241073152, 0) := by
      rw [← F2, ← F3]
      rfl
    rw [e] at this
    exact this
  have hWay : ∀ W : World, Calls Try.prog 12 #[.complex .f64 4611686018427387904 4613937818241073152, .complex .f64 0 4616189618054758400] W fun e w' => e = .returned (.int .i64 3) ∧ w' = W := fun W => by
    have := Way_calls 2 3 0 4 (by omega) (by omega) (by omega) (by omega) W
    rw [F2, F3, F0, F4] at this
    exact this
  have o0 : (FloatKind.f64.format.order 0 0 == some .eq) = true := by decide +kernel
  have o1 : (FloatKind.f64.format.order 4607182418800017408 4607182418800017408 == some .eq) = true := by decide +kernel
  have o2 : (FloatKind.f64.format.order 4611686018427387904 4611686018427387904 == some .eq) = true := by decide +kernel
  have o3 : (FloatKind.f64.format.order 4613937818241073152 4613937818241073152 == some .eq) = true := by decide +kernel
  have c1 : ∀ t W, (binOp .eql t (.complex .f64 4611686018427387904 4613937818241073152) (.complex .f64 4611686018427387904 4613937818241073152)).run Try.prog W = .ok (.bool true) W := fun t W => by rw [run_eql_complex, o2, o3]; rfl
  have c2 : ∀ t W, (binOp .eql t (.complex .f64 0 4607182418800017408) (.complex .f64 0 4607182418800017408)).run Try.prog W = .ok (.bool true) W := fun t W => by rw [run_eql_complex, o0, o1]; rfl
  go_enter Try.func11, Try.ntmps11
  go_wp2_with (first | (go_at_call 10; with_reducible refine (hAt _).mono ?_; rintro e w1 ⟨rfl, hb⟩) | (go_at_call 12; with_reducible refine (hWay _).mono ?_; rintro e w2 ⟨rfl, rfl⟩) | (go_at_call 28; with_reducible refine (Turn_one _).mono ?_; rintro e w3 ⟨rfl, rfl⟩) | simp only [c1, c2])
  go_ret
  exact ⟨rfl, hb⟩
end Go.Proofs.Ythembklejaabiaa.PL
