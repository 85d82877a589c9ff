import Derived.Test.YthembklejaabiaaSPlaceShort
namespace Go.Proofs.Ythembklejaabiaa.Pure
open Go.RowKit
open Go.Proofs.Ythembklejaabiaa.PI Go.Proofs.YthembklejaabiaaW.PrintWords Go.Proofs.YthembklejaabiaaW.PrintLast Go.Proofs.YthembklejaabiaaW.PrintMore
theorem u16b {n : Int} (h : (Lit.int .u16 n).wf = true) : 0 ≤ n ∧ n < 65536 := by
  have h' := (Bool.and_eq_true _ _).mp h
  have h1 : (0 : Int) ≤ n := of_decide_eq_true h'.1
  have h2 : n ≤ (65535 : Int) := of_decide_eq_true h'.2
  omega
theorem PlaceShort : PlaceShort_ := by
  intro x0 a1 h0 h1
  have b0 := u16b h0.1
  have b1 := u16b h0.2.1
  have b2 := u16b h0.2.2
  have b3 := u16b h1
  unfold selvedgelaw01_PlaceShort.f
  rw [if_pos (by omega)]
end Go.Proofs.Ythembklejaabiaa.Pure
