import Derived.Test.YthembklejaabiaaSPlaceRoutes
import Derived.Test.YthembklejaabiaaB2
namespace Go.Proofs.Ythembklejaabiaa.Pure
open Go.RowKit
open Go.Proofs.Ythembklejaabiaa.PG Go.Proofs.YthembklejaabiaaW.PrintWords Go.Proofs.YthembklejaabiaaW.PrintLast Go.Proofs.YthembklejaabiaaW.PrintMore
theorem PlaceRoutes : PlaceRoutes_ := by
  intro a0 l1 a2 _ _ _ _
  obtain ⟨m, hm, hl, _, _⟩ := few_is l1
  obtain ⟨r, hr⟩ := Route_ex a0 a2 m (by omega)
  obtain ⟨s, hs⟩ := Next_ex a0 a2 m (by omega)
  refine ⟨100, ?_⟩
  unfold selvedgelaw01_PlaceRoutes.f
  rw [hm, Option.bind_some, hr, Option.bind_some, refRoute_is a0 a2 m (by omega) 100 (by omega), hr, Option.bind_some, hs, Option.bind_some, refNext_is a0 a2 m (by omega) 100 (by omega), hs, Option.bind_some]
  simp [selvedgelaw01_live.f]
end Go.Proofs.Ythembklejaabiaa.Pure
