import Derived.Test.YthembklejaabiaaPL9
/-! The walk of the law PlaceBack. -/
namespace Go.Proofs.Ythembklejaabiaa.PH
open Go.RowKit Go.Proofs.Ythembklejaabiaa.Fl Go.Proofs.Ythembklejaabiaa.PL Go.Proofs.YthembklejaabiaaW.PrintWords Go.Proofs.YthembklejaabiaaW.PrintLast Go.Proofs.YthembklejaabiaaW.PrintMore
attribute [local go_sem] Oper.semAt_some
def selvedgelaw01_PlaceBack.f (a0 : Int) (a1 : Int) : Option Bool := some (decide (a0 = a0 ∧ a1 = a1))
set_option maxRecDepth 100000 in
set_option maxHeartbeats 1000000 in
theorem selvedgelaw01_PlaceBack.calls (a0 : Int) (a1 : Int) (r : Bool) (w : World) (h : selvedgelaw01_PlaceBack.f a0 a1 = some r) :
    Calls Try.prog 4 #[.int .i64 a0, .int .i64 a1] w fun e w' => e = .returned (.bool r) ∧ Below w.heap.size w w' := by
  obtain rfl : true = r := by simpa [selvedgelaw01_PlaceBack.f] using h
  clear h
  cases hm : mayB a1 [a0] with
  | true =>
    obtain ⟨h0, h1, h2, h3⟩ := may_one hm
    obtain ⟨n, rfl⟩ := Int.eq_ofNat_of_zero_le h0
    obtain ⟨q, rfl⟩ := Int.eq_ofNat_of_zero_le (show 0 ≤ a1 by omega)
    have hAt : ∀ W : World, Calls Try.prog 10 #[.int .i64 (n : Int), .int .i64 (q : Int)] W fun e w' => e = .returned (.tuple #[.complex .f64 (F ((n / q : Nat) : Int)) (F ((n % q : Nat) : Int)), .int .i64 0]) ∧ Below W.heap.size W w' := fun W => by
      have := At_calls (n : Int) (q : Int) W
      unfold atV at this
      rw [if_pos hm] at this
      exact this
    have hlt : n % q < q := Nat.mod_lt _ (by omega)
    have hle : n / q ≤ n := Nat.div_le_self _ _
    have hdm : q * (n / q) + n % q = n := Nat.div_add_mod n q
    have hBl : ∀ W : World, Calls Try.prog 13 #[.complex .f64 (F ((n / q : Nat) : Int)) (F ((n % q : Nat) : Int)), .int .i64 (q : Int)] W fun e w' => e = .returned (.tuple #[.int .i64 (n : Int), .bool true]) ∧ w' = W := fun W => by
      have := Block_calls (n / q) (n % q) (q : Int) (by omega) (by omega) W
      have e : blockV (n / q) (n % q) (q : Int) = ((n : Int), true) := by
        have e1 : ((n / q : Nat) : Int) * (q : Int) + ((n % q : Nat) : Int) = (n : Int) := by rw [← Int.natCast_mul, ← Int.natCast_add, Nat.mul_comm, hdm]
        unfold blockV
        rw [if_pos (by rw [may_none]; simp; omega), if_neg (by omega), e1, if_neg (by omega)]
      rw [e] at this
      exact this
    generalize F ((n / q : Nat) : Int) = fx at hAt hBl
    generalize F ((n % q : Nat) : Int) = fy at hAt hBl
    go_enter Try.func4, Try.ntmps4
    go_wp2_with (first | (go_at_call 10; with_reducible refine (hAt _).mono ?_; rintro e w1 ⟨rfl, hb1⟩) | (go_at_call 13; with_reducible refine (hBl _).mono ?_; rintro e w2 ⟨rfl, rfl⟩) | (go_at_call 11; with_reducible refine (live_calls _).mono ?_; rintro e w3 ⟨rfl, hb3⟩))
    go_ret
    exact ⟨rfl, below_step hb1 hb3⟩
  | false =>
    have hAt : ∀ W : World, Calls Try.prog 10 #[.int .i64 a0, .int .i64 a1] W fun e w' => e = .returned (.tuple #[.complex .f64 0 0, .int .i64 2]) ∧ Below W.heap.size W w' := fun W => by
      have := At_calls a0 a1 W
      unfold atV at this
      rw [hm] at this
      exact this
    have hBl : ∀ W : World, Calls Try.prog 13 #[.complex .f64 0 0, .int .i64 a1] W fun e w' => e = .returned (.tuple #[.int .i64 (blockV 0 0 a1).1, .bool (blockV 0 0 a1).2]) ∧ w' = W := fun W => by
      have := Block_calls 0 0 a1 (by omega) (by omega) W
      rw [F0] at this
      exact this
    generalize (blockV 0 0 a1).1 = b1 at hBl
    generalize (blockV 0 0 a1).2 = b2 at hBl
    have o0 : (FloatKind.f64.format.order 0 0 == some .eq) = true := by decide +kernel
    have c2 : ∀ t W, (binOp .eql t (.complex .f64 0 0) (.complex .f64 0 0)).run Try.prog W = .ok (.bool true) W := fun t W => by rw [run_eql_complex, o0]; rfl
    go_enter Try.func4, Try.ntmps4
    go_wp2_with (first | (go_at_call 10; with_reducible refine (hAt _).mono ?_; rintro e w1 ⟨rfl, hb1⟩) | (go_at_call 13; with_reducible refine (hBl _).mono ?_; rintro e w2 ⟨rfl, rfl⟩) | (go_at_call 11; with_reducible refine (live_calls _).mono ?_; rintro e w3 ⟨rfl, hb3⟩) | simp only [c2])
    go_ret
    exact ⟨rfl, below_step hb1 hb3⟩
end Go.Proofs.Ythembklejaabiaa.PH
