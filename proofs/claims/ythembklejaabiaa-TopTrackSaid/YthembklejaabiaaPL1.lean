import Derived.Test.YthembklejaabiaaPL0
import Derived.WalkMore
import Derived.Test.YthembklejaabiaaWMore
/-! Contracts of the package place: which places are plain, where a block lies. -/
namespace Go.Proofs.Ythembklejaabiaa.PL
open Go.RowKit Go.Proofs.Ythembklejaabiaa.Fl Go.Proofs.YthembklejaabiaaW.PrintWords Go.Proofs.YthembklejaabiaaW.PrintLast Go.Proofs.YthembklejaabiaaW.PrintMore
attribute [local go_sem] Oper.semAt_some
theorem far_is : Is 4697254411347427328 1048576 := isB_is (by decide +kernel)
theorem order_self (n : Int) (h : -1100 < n ∧ n < 1100) : FloatKind.f64.format.order (F n) (F n) = some .eq := by
  rw [← Int.compare_eq_eq.2 (rfl : n = n)]; exact order_is (is_F n h) (is_F n h)
theorem order_far (n : Int) (h : -1100 < n ∧ n < 1100) : FloatKind.f64.format.order (F n) 4697254411347427328 = some .lt := by
  rw [← Int.compare_eq_lt.2 (show n < 1048576 by omega)]; exact order_is (is_F n h) far_is
theorem index_two (x y : Nat) (W : World) : (Instr.index 68 (.agg #[.float .f64 x, .float .f64 y]) (.int .i64 0)).run Try.prog W = .ok (.float .f64 x) W ∧ (Instr.index 68 (.agg #[.float .f64 x, .float .f64 y]) (.int .i64 1)).run Try.prog W = .ok (.float .f64 y) W := ⟨by kernel_rfl, by kernel_rfl⟩
set_option maxRecDepth 100000 in
set_option maxHeartbeats 1000000 in
theorem plain_calls (a b : Nat) (ha : a < 1100) (hb : b < 1100) (w : World) : Calls Try.prog 29 #[.complex .f64 (F (a : Int)) (F (b : Int))] w fun e w' => e = .returned (.bool true) ∧ w' = w := by
  have hx0 := fun W => (index_two (F (a : Int)) (F (b : Int)) W).1
  have hx1 := fun W => (index_two (F (a : Int)) (F (b : Int)) W).2
  go_enter Try.func29, Try.ntmps29
  go_wp2; go_step3; go_wp2
  go_loopg [10] 2 (fun kq v10 w' => ∃ i : Nat, i + kq = 2 ∧ v10 = .int .i64 (i : Int) ∧ w' = w)
  case atStart => exact ⟨0, rfl, rfl, rfl⟩
  case round =>
    obtain ⟨i, hi, rfl, rfl⟩ := hrel
    have one : ∀ n : Nat, n < 1100 → (FloatKind.f64.format.order (F (n : Int)) (F (n : Int)) != some .eq) = false ∧ (FloatKind.f64.format.order (F (n : Int)) 4697254411347427328 == some .gt) = false := fun n hn => ⟨by rw [order_self n (by omega)]; rfl, by rw [order_far n (by omega)]; rfl⟩
    cases gk with
    | zero =>
      obtain rfl : i = 2 := by omega
      go_wp2
      go_ret
      exact ⟨rfl, rfl⟩
    | succ k1 =>
      rcases (show i = 0 ∨ i = 1 by omega) with rfl | rfl
      · have o1 := (one a ha).1
        have o2 := (one a ha).2
        go_wp2_with (first | (go_at_call 40; refine (nan_calls (a : Int) (by omega) _).mono ?_; rintro e w' ⟨rfl, rfl⟩) | (go_at_call 30; refine (abs_calls (a : Int) (by omega) _).mono ?_; rintro e w' ⟨rfl, rfl⟩) | (go_at_call 41; refine (trunc_calls a ha _).mono ?_; rintro e w' ⟨rfl, rfl⟩) | (simp only [o1, o2, hx0, hx1]))
        go_roundg k1
        all_goals first | exact ⟨1, by omega, rfl, rfl⟩ | omega | trace_state
      · have o1 := (one b hb).1
        have o2 := (one b hb).2
        go_wp2_with (first | (go_at_call 40; refine (nan_calls (b : Int) (by omega) _).mono ?_; rintro e w' ⟨rfl, rfl⟩) | (go_at_call 30; refine (abs_calls (b : Int) (by omega) _).mono ?_; rintro e w' ⟨rfl, rfl⟩) | (go_at_call 41; refine (trunc_calls b hb _).mono ?_; rintro e w' ⟨rfl, rfl⟩) | (simp only [o1, o2, hx0, hx1]))
        go_roundg k1
        all_goals first | exact ⟨2, by omega, rfl, rfl⟩ | omega | trace_state
end Go.Proofs.Ythembklejaabiaa.PL
