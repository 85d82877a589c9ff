import Derived.Test.YthembklejaabiaaPL8
/-! Contracts of the package place: Block. -/
namespace Go.Proofs.Ythembklejaabiaa.PL
open Go.RowKit Go.Proofs.Ythembklejaabiaa.Fl Go.Proofs.YthembklejaabiaaW.PrintWords Go.Proofs.YthembklejaabiaaW.PrintLast Go.Proofs.YthembklejaabiaaW.PrintMore
attribute [local go_sem] Oper.semAt_some
theorem is_zero : Is 0 0 := isB_is (by decide +kernel)
/-- What Block answers at a place of whole parts. -/
def blockV (x y : Nat) (p : Int) : Int × Bool := if mayB p [] = true then (if (y : Int) ≥ p then (0, false) else if (x : Int) * p + y ≥ 1024 then (0, false) else ((x : Int) * p + y, true)) else (0, false)
theorem may_none {p : Int} : mayB p [] = (decide (p ≥ 1) && decide (p ≤ 64)) := by simp [mayB]
set_option maxRecDepth 100000 in
set_option maxHeartbeats 1000000 in
theorem Block_calls (x y : Nat) (p : Int) (hx : x < 1024) (hy : y < 64) (w : World) : Calls Try.prog 13 #[.complex .f64 (F (x : Int)) (F (y : Int)), .int .i64 p] w fun e w' => e = .returned (.tuple #[.int .i64 (blockV x y p).1, .bool (blockV x y p).2]) ∧ w' = w := by
  have hmay : ∀ W : World, Calls Try.prog 26 #[.int .i64 p, .slice none 0 0] W fun e w' => e = .returned (.bool (mayB p [])) ∧ w' = W := fun W => may_calls p none 0 [] W (Kd.C_nil _ _) (by simp)
  have g1 : (FloatKind.f64.format.order (F (x : Int)) 0 == some .lt) = false := by
    rw [show FloatKind.f64.format.order (F (x : Int)) 0 = _ from order_is (is_F (x : Int) (by omega)) is_zero]
    rcases Nat.eq_zero_or_pos x with h | h
    · subst h; rfl
    · rw [Int.compare_eq_gt.2 (show (x : Int) > 0 by omega)]; rfl
  have g2 : (FloatKind.f64.format.order (F (y : Int)) 0 == some .lt) = false := by
    rw [show FloatKind.f64.format.order (F (y : Int)) 0 = _ from order_is (is_F (y : Int) (by omega)) is_zero]
    rcases Nat.eq_zero_or_pos y with h | h
    · subst h; rfl
    · rw [Int.compare_eq_gt.2 (show (y : Int) > 0 by omega)]; rfl
  unfold blockV
  cases hm : mayB p [] with
  | false =>
    rw [if_neg (by simp)]
    go_enter Try.func13, Try.ntmps13
    go_wp2_with (first | (go_at_call 26; with_reducible refine (hmay _).mono ?_; rw [hm]; rintro e w2 ⟨rfl, rfl⟩))
    go_ret2
    exact ⟨rfl, rfl⟩
  | true =>
    rw [if_pos rfl]
    have hp : 1 ≤ p ∧ p ≤ 64 := by rw [may_none] at hm; simpa using hm
    have hq := order_is (is_F (y : Int) (by omega)) (is_F p (by omega))
    have cx : ∀ W, (convert 57 3 (.float .f64 (F (x : Int)))).run Try.prog W = .ok (.int .i64 (x : Int)) W := fun W => run_convert_float_int W 57 3 .f64 .i64 _ _ (by rw [Try.underlying57]; rfl) Try.underlying3 (toInt_is _ (by omega))
    have cy : ∀ W, (convert 57 3 (.float .f64 (F (y : Int)))).run Try.prog W = .ok (.int .i64 (y : Int)) W := fun W => run_convert_float_int W 57 3 .f64 .i64 _ _ (by rw [Try.underlying57]; rfl) Try.underlying3 (toInt_is _ (by omega))
    by_cases hyp : (y : Int) ≥ p
    · rw [if_pos hyp]
      have g3 : (FloatKind.f64.format.order (F (y : Int)) (floatOfInt .f64 p) == some .gt || FloatKind.f64.format.order (F (y : Int)) (floatOfInt .f64 p) == some .eq) = true := by
        rw [F_eq, show FloatKind.f64.format.order (F (y : Int)) (F p) = _ from hq]
        rcases Int.lt_or_eq_of_le hyp with h | h
        · rw [Int.compare_eq_gt.2 h]; rfl
        · rw [Int.compare_eq_eq.2 h.symm]; rfl
      go_enter Try.func13, Try.ntmps13
      go_wp2_with (first | (go_at_call 26; with_reducible refine (hmay _).mono ?_; rw [hm]; rintro e w2 ⟨rfl, rfl⟩) | (go_at_call 29; with_reducible refine (plain_calls x y (by omega) (by omega) _).mono ?_; rintro e w2 ⟨rfl, rfl⟩))
      go_ret2
      exact ⟨rfl, rfl⟩
    · rw [if_neg hyp]
      have g3 : (FloatKind.f64.format.order (F (y : Int)) (floatOfInt .f64 p) == some .gt || FloatKind.f64.format.order (F (y : Int)) (floatOfInt .f64 p) == some .eq) = false := by
        rw [F_eq, show FloatKind.f64.format.order (F (y : Int)) (F p) = _ from hq, Int.compare_eq_lt.2 (show (y : Int) < p by omega)]; rfl
      obtain ⟨q, rfl⟩ := Int.eq_ofNat_of_zero_le (show 0 ≤ p by omega)
      have hmul : x * q ≤ 1024 * 64 := Nat.mul_le_mul (by omega) (by omega)
      have e1 : (x : Int) * (q : Int) = ((x * q : Nat) : Int) := (Int.natCast_mul x q).symm
      obtain ⟨m, hm1⟩ : ∃ m : Nat, x * q = m := ⟨_, rfl⟩
      rw [hm1] at hmul e1
      obtain ⟨t, ht⟩ : ∃ t : Nat, m + y = t := ⟨_, rfl⟩
      have hw1 : wrap64 ((x : Int) * (q : Int)) = (m : Int) := by rw [e1]; unfold wrap64; omega
      have hw2 : wrap64 ((m : Int) + (y : Int)) = (t : Int) := by unfold wrap64; omega
      have e0 : (x : Int) * (q : Int) + (y : Int) = (t : Int) := by omega
      have h12 : wrap64 (wrap64 ((x : Int) * (q : Int)) + (y : Int)) = (t : Int) := by rw [hw1, hw2]
      rw [e0]
      clear hw1 hw2 e0 e1 hm1
      by_cases hbig : (t : Int) ≥ 1024
      · rw [if_pos hbig]
        go_enter Try.func13, Try.ntmps13
        go_wp2_with (first | (go_at_call 26; with_reducible refine (hmay _).mono ?_; rw [hm]; rintro e w2 ⟨rfl, rfl⟩) | (go_at_call 29; with_reducible refine (plain_calls x y (by omega) (by omega) _).mono ?_; rintro e w2 ⟨rfl, rfl⟩) | simp only [cx, cy])
        go_ret2
        exact ⟨rfl, rfl⟩
      · rw [if_neg hbig]
        go_enter Try.func13, Try.ntmps13
        go_wp2_with (first | (go_at_call 26; with_reducible refine (hmay _).mono ?_; rw [hm]; rintro e w2 ⟨rfl, rfl⟩) | (go_at_call 29; with_reducible refine (plain_calls x y (by omega) (by omega) _).mono ?_; rintro e w2 ⟨rfl, rfl⟩) | simp only [cx, cy])
        go_ret2
        exact ⟨by first | rfl | (rw [← h12]; rfl), rfl⟩
end Go.Proofs.Ythembklejaabiaa.PL
