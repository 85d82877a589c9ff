import Derived.Test.YthembklejaabiaaPL3
/-! Contracts of the package place: may, At, Way. -/
namespace Go.Proofs.Ythembklejaabiaa.PL
open Go.RowKit Go.Proofs.Ythembklejaabiaa.Fl Go.Proofs.YthembklejaabiaaW.PrintWords Go.Proofs.YthembklejaabiaaW.PrintLast Go.Proofs.YthembklejaabiaaW.PrintMore
attribute [local go_sem] Oper.semAt_some
theorem contains_calls (A : Option Addr) (c : Nat) (l : List Int) (w : World) (hC : Kd.C (Kd.int .i64) w A l.length l) (hn : l.length < 140737488355328) : Calls Try.prog 38 #[.slice A l.length c, .func (.func 39) #[] #[]] w fun e w' => e = .returned (.bool (l.any bad)) ∧ w' = w := by
  have HC := Aside0.mk hC
  clear hC
  go_enter Try.func38, Try.ntmps38
  go_wp2_with (go_at_call 49; refine (idx_calls A c l _ HC.out hn).mono ?_; rintro e w' ⟨⟨i, rfl, hi⟩, rfl⟩)
  go_ret
  exact ⟨by rw [← hi]; first | rfl | simp, rfl⟩
/-- There are such blocks, on such tracks. -/
def mayB (p : Int) (l : List Int) : Bool := decide (p ≥ 1) && decide (p ≤ 64) && !l.any bad
theorem may_calls (p : Int) (A : Option Addr) (c : Nat) (l : List Int) (w : World) (hC : Kd.C (Kd.int .i64) w A l.length l) (hn : l.length < 140737488355328) : Calls Try.prog 26 #[.int .i64 p, .slice A l.length c] w fun e w' => e = .returned (.bool (mayB p l)) ∧ w' = w := by
  have HC := Aside0.mk hC
  clear hC
  unfold mayB
  by_cases h1 : p ≥ 1
  · have b1 : decide (1 ≤ p) = true := by simp; omega
    by_cases h2 : p ≤ 64
    · have b2 : decide (p ≤ 64) = true := by simp; omega
      go_enter Try.func26, Try.ntmps26
      go_wp2_with (go_at_call 38; refine (contains_calls A c l _ HC.out hn).mono ?_; rintro e w' ⟨rfl, rfl⟩)
      go_ret
      exact ⟨by simp [h1, h2], rfl⟩
    · have b2 : decide (p ≤ 64) = false := by simp; omega
      go_enter Try.func26, Try.ntmps26
      go_wp2_with (fail)
      go_ret
      exact ⟨by simp [h2], rfl⟩
  · have b1 : decide (1 ≤ p) = false := by simp; omega
    go_enter Try.func26, Try.ntmps26
    go_wp2_with (fail)
    go_ret
    exact ⟨by simp [h1], rfl⟩
end Go.Proofs.Ythembklejaabiaa.PL
