import Derived.Test.YteodjknknpdmeaaOpen
import Derived.Test.YteodjknknpdmeaaPGx0
import Derived.KernelRfl
namespace Go.Proofs.Yteodjknknpdmeaa.BitsetBackR
open Go.RowKit
open Go.Proofs.Yteodjknknpdmeaa.PG Go.Proofs.YteodjknknpdmeaaW.PrintWords Go.Proofs.YteodjknknpdmeaaW.PrintLast Go.Proofs.YteodjknknpdmeaaW.PrintMore
end Go.Proofs.Yteodjknknpdmeaa.BitsetBackR
