import Derived.Test.YthembklejaabiaaSPlaceSweeps
import Derived.Test.YthembklejaabiaaB3
namespace Go.Proofs.Ythembklejaabiaa.Pure
open Go.RowKit
open Go.Proofs.Ythembklejaabiaa.PG Go.Proofs.YthembklejaabiaaW.PrintWords Go.Proofs.YthembklejaabiaaW.PrintLast Go.Proofs.YthembklejaabiaaW.PrintMore
theorem PlaceSweeps : PlaceSweeps_ := by
  intro a0 l1 a2 _ _ _ _
  obtain ⟨m, hm, hl, _, _⟩ := few_is l1
  refine ⟨6000, ?_⟩
  have hs := swF_len a2 a0 m
  unfold selvedgelaw01_PlaceSweeps.f
  rw [hm, Option.bind_some, Option.bind_some, if_pos (by simp; omega), Option.bind_some, List.nil_append, Sweep_is a0 a2 m (by omega) 6000 (by omega), Option.bind_some, refSweep_is a0 a2 m (by omega) 6000 (by omega), Option.bind_some]
  rw [show selvedgelaw01_live.f = some true from rfl, Option.bind_some, if_pos rfl, Same_self _ (by omega) 6000 (by omega), Option.bind_some, if_pos rfl, if_pos rfl, Same_self _ (by omega) 6000 (by omega), Option.bind_some]
end Go.Proofs.Ythembklejaabiaa.Pure
