import Derived.Test.YthembklejaabiaaXA
/-! Plain laws of the contracts that are not printed. -/
namespace Go.Proofs.Ythembklejaabiaa.Pure
open Go.RowKit Go.Proofs.Ythembklejaabiaa.Fl Go.Proofs.Ythembklejaabiaa.PL
open Go.Proofs.Ythembklejaabiaa.PG Go.Proofs.YthembklejaabiaaW.PrintWords Go.Proofs.YthembklejaabiaaW.PrintLast Go.Proofs.YthembklejaabiaaW.PrintMore
theorem u8b {n : Int} (h : (Lit.int .u8 n).wf = true) : 0 ≤ n ∧ n < 256 := by
  have h' := (Bool.and_eq_true _ _).mp h
  have h1 : (0 : Int) ≤ n := of_decide_eq_true h'.1
  have h2 : n ≤ (255 : Int) := of_decide_eq_true h'.2
  omega
theorem i64b {n : Int} (h : (Lit.int .i64 n).wf = true) : -9223372036854775808 ≤ n ∧ n < 9223372036854775808 := by
  have h' := (Bool.and_eq_true _ _).mp h
  have h1 : (-9223372036854775808 : Int) ≤ n := of_decide_eq_true h'.1
  have h2 : n ≤ (9223372036854775807 : Int) := of_decide_eq_true h'.2
  omega
theorem w64 {n : Int} (h1 : -9223372036854775808 ≤ n) (h2 : n < 9223372036854775808) : wrap64 n = n := by unfold wrap64; omega
theorem mayB_one {b p : Int} (hb : Bl b) (hp : Tr p) : mayB p [b] = true := by
  have := hb.1; have := hb.2; have := hp.1; have := hp.2
  simp [mayB, bad]; omega
theorem At_is {b p : Int} (hb : Bl b) (hp : Tr p) : place_At.f b p = some ((X b p, Y b p), 0) := by
  unfold place_At.f atV
  rw [if_pos (mayB_one hb hp)]
  rfl
theorem Way_is {a b p : Int} (ha : Bl a) (hb : Bl b) (hp : Tr p) : place_Way.f (X a p, Y a p) (X b p, Y b p) = some (wayI a b p) := by
  have h1 := parts ha hp
  have h2 := parts hb hp
  unfold place_Way.f X Y
  rw [unF_F _ _ h1.1 (by omega), Option.bind_some, unF_F _ _ h1.2 (by omega), Option.bind_some, unF_F _ _ h2.1 (by omega), Option.bind_some, unF_F _ _ h2.2 (by omega), Option.bind_some]
  rfl
theorem Way_11 : place_Way.f (X 0 64, Y 0 64) (4607182418800017408, 4607182418800017408) = some 2 := by
  have h1 := parts (b := 0) (p := 64) ⟨by omega, by omega⟩ ⟨by omega, by omega⟩
  unfold place_Way.f X Y
  rw [unF_F _ _ h1.1 (by omega), Option.bind_some, unF_F _ _ h1.2 (by omega), Option.bind_some, ← F1, unF_F 1 1024 (by omega) (by omega), Option.bind_some, unF_F 1 64 (by omega) (by omega), Option.bind_some]
  rfl
end Go.Proofs.Ythembklejaabiaa.Pure
