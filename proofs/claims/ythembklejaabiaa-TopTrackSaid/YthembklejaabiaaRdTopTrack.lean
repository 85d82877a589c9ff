import Derived.Test.YthembklejaabiaaOpen
import Derived.Test.YthembklejaabiaaPGx0
import Derived.KernelRfl
namespace Go.Proofs.Ythembklejaabiaa.TopTrackR
open Go.RowKit
open Go.Proofs.Ythembklejaabiaa.PG Go.Proofs.YthembklejaabiaaW.PrintWords Go.Proofs.YthembklejaabiaaW.PrintLast Go.Proofs.YthembklejaabiaaW.PrintMore
end Go.Proofs.Ythembklejaabiaa.TopTrackR
