import Derived.Test.YthembklejaabiaaOpen
import Derived.Test.YthembklejaabiaaPHx0
import Derived.KernelRfl
namespace Go.Proofs.Ythembklejaabiaa.PlaceBackR
open Go.RowKit
open Go.Proofs.Ythembklejaabiaa.PH Go.Proofs.YthembklejaabiaaW.PrintWords Go.Proofs.YthembklejaabiaaW.PrintLast Go.Proofs.YthembklejaabiaaW.PrintMore
end Go.Proofs.Ythembklejaabiaa.PlaceBackR
