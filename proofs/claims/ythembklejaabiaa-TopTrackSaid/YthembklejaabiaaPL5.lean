import Derived.Test.YthembklejaabiaaPL4
/-! Contracts of the package place: At, Way. -/
namespace Go.Proofs.Ythembklejaabiaa.PL
open Go.RowKit Go.Proofs.Ythembklejaabiaa.Fl Go.Proofs.YthembklejaabiaaW.PrintWords Go.Proofs.YthembklejaabiaaW.PrintLast Go.Proofs.YthembklejaabiaaW.PrintMore
attribute [local go_sem] Oper.semAt_some
/-- How far it is from place to place. -/
def apartN (a b c d : Nat) : Nat := ((a : Int) - c).natAbs + ((b : Int) - d).natAbs
set_option maxRecDepth 100000 in
set_option maxHeartbeats 2000000 in
theorem Way_calls (a b c d : Nat) (ha : a < 1024) (hb : b < 64) (hc : c < 1024) (hd : d < 64) (w : World) : Calls Try.prog 12 #[.complex .f64 (F (a : Int)) (F (b : Int)), .complex .f64 (F (c : Int)) (F (d : Int))] w fun e w' => e = .returned (.int .i64 (apartN a b c d : Int)) ∧ w' = w := by
  have s1 := sub_is (is_F (a : Int) (by omega)) (is_F (c : Int) (by omega)) (by omega)
  have s2 := sub_is (is_F (b : Int) (by omega)) (is_F (d : Int) (by omega)) (by omega)
  have hs : cSumBits .sub .f64 (F (a : Int)) (F (b : Int)) (F (c : Int)) (F (d : Int)) = some (F ((a : Int) - c), F ((b : Int) - d)) := by
    unfold cSumBits
    rw [s1, s2]
    rfl
  have hop : ∀ t W, (binOp .sub t (.complex .f64 (F (a : Int)) (F (b : Int))) (.complex .f64 (F (c : Int)) (F (d : Int)))).run Try.prog W = .ok (.complex .f64 (F ((a : Int) - c)) (F ((b : Int) - d))) W := fun t W => run_complex_sum W .sub (.inr rfl) t .f64 _ _ _ _ _ _ hs
  have hsum : floatBits .add .f64 (F (((a : Int) - c).natAbs : Int)) (F (((b : Int) - d).natAbs : Int)) = some (F ((apartN a b c d : Nat) : Int)) := by
    have := add_is (is_F (((a : Int) - c).natAbs : Int) (by omega)) (is_F (((b : Int) - d).natAbs : Int) (by omega)) (by omega)
    rw [this]
    congr 2
  have hadd : ∀ t W, (binOp .add t (.float .f64 (F (((a : Int) - c).natAbs : Int))) (.float .f64 (F (((b : Int) - d).natAbs : Int)))).run Try.prog W = .ok (.float .f64 (F ((apartN a b c d : Nat) : Int))) W := fun t W => run_float_arith W .add t .f64 _ _ _ hsum
  have hti : floatToIntVal .f64 (F ((apartN a b c d : Nat) : Int)) .i64 = some ((apartN a b c d : Nat) : Int) := toInt_is _ (by unfold apartN; omega)
  have hcv : ∀ W, (convert 57 3 (.float .f64 (F ((apartN a b c d : Nat) : Int)))).run Try.prog W = .ok (.int .i64 ((apartN a b c d : Nat) : Int)) W := fun W => run_convert_float_int W 57 3 .f64 .i64 _ _ (by rw [Try.underlying57]; rfl) Try.underlying3 hti
  generalize (F ((apartN a b c d : Nat) : Int)) = fz at hadd hcv
  clear hsum hti hs s1 s2
  go_enter Try.func12, Try.ntmps12
  go_wp2_with (first | (go_at_call 29; first | (with_reducible refine (plain_calls a b (by omega) (by omega) _).mono ?_; rintro e w' ⟨rfl, rfl⟩) | (with_reducible refine (plain_calls c d (by omega) (by omega) _).mono ?_; rintro e w' ⟨rfl, rfl⟩)) | (go_at_call 30; first | (with_reducible refine (abs_calls ((a : Int) - c) (by omega) _).mono ?_; rintro e w' ⟨rfl, rfl⟩) | (with_reducible refine (abs_calls ((b : Int) - d) (by omega) _).mono ?_; rintro e w' ⟨rfl, rfl⟩)) | (simp only [hop, hadd, hcv]))
  go_ret
  exact ⟨rfl, rfl⟩
end Go.Proofs.Ythembklejaabiaa.PL
