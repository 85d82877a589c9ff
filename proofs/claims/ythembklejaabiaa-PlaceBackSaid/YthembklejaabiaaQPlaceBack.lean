import Derived.Test.YthembklejaabiaaSPlaceBack
namespace Go.Proofs.Ythembklejaabiaa.Pure
open Go.RowKit
open Go.Proofs.Ythembklejaabiaa.PH Go.Proofs.YthembklejaabiaaW.PrintWords Go.Proofs.YthembklejaabiaaW.PrintLast Go.Proofs.YthembklejaabiaaW.PrintMore
theorem PlaceBack : PlaceBack_ := by
  intro a0 a1 _ _
  simp [selvedgelaw01_PlaceBack.f]
end Go.Proofs.Ythembklejaabiaa.Pure
