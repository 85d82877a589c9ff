-- PRINTED by print.py (a twelfth state) out of the translation. Not trusted: Lean checks it.
import Derived.Test.YteodjknknpdmeaaProg
import Derived.Below
import Derived.Deep.Draws
import Derived.Deep.AppendLies
import Derived.Maps.AppendAt
import Derived.OwnWalk
import Derived.Laws.BytesArg
import Derived.Laws.MakeOwn
import Derived.Laws.OwnMore
import Derived.Deep.OwnRows
import Derived.Tactics
import Derived.Lib.ConvBytes
import Derived.Laws.Slices
import Derived.WalkKit
import Derived.KernelRfl
import Derived.RowKit3
import Derived.Deep.LoopGhost
import Derived.Deep.QuietTactic
import Derived.BigQuiet
import Derived.WideLaws
import Derived.Deep.DeepCutAuto
import Derived.Deep.CutBlock
import Derived.Deep.RegionHeld3
import Derived.Laws.Rows
import Derived.Lib.AppendStr
import Derived.ArgAppend
import Derived.Laws.IdiomCopy
import Derived.OrdersHeld
import Derived.Laws.BitsLemmas
import Derived.RowKit
import Derived.Test.YteodjknknpdmeaaWWords
import Derived.Test.YteodjknknpdmeaaWLast
import Derived.Test.YteodjknknpdmeaaWTab
import Derived.Test.YteodjknknpdmeaaWFour
import Derived.Test.YteodjknknpdmeaaWQPut
import Derived.Test.YteodjknknpdmeaaWApart
import Derived.Test.YteodjknknpdmeaaWArr
import Derived.Test.YteodjknknpdmeaaWZeros
import Derived.Test.YteodjknknpdmeaaWFoot
import Derived.Test.YteodjknknpdmeaaWKept
import Derived.Test.YteodjknknpdmeaaWShare
import Derived.Test.YteodjknknpdmeaaWN
import Derived.Test.YteodjknknpdmeaaWFootNe
import Derived.Test.YteodjknknpdmeaaWAt
import Derived.Test.YteodjknknpdmeaaWEqStruct
import Derived.Test.YteodjknknpdmeaaWRepsOne
import Derived.Test.YteodjknknpdmeaaWInv
import Derived.Test.YteodjknknpdmeaaWInvWords
import Derived.Test.YteodjknknpdmeaaWGuard
import Derived.Test.YteodjknknpdmeaaWNEv
import Derived.Test.YteodjknknpdmeaaWMore
namespace Go.Proofs.Yteodjknknpdmeaa.PA
open Go.RowKit Go.Proofs.YteodjknknpdmeaaW.PrintWords Go.Proofs.YteodjknknpdmeaaW.PrintLast Go.Proofs.YteodjknknpdmeaaW.PrintMore
attribute [local go_sem] max2_int min2_int max_two min_two max_three min_three max_four min_four   -- for this text's walks alone
set_option linter.unusedVariables false
set_option linter.unusedSimpArgs false



def errW : Option Int → Value
  | none => .nilIface
  | some c => .iface 0 (.int .i64 c)
theorem errW_none : errW none = .nilIface := rfl
theorem errW_some (c : Int) : errW (some c) = .iface 0 (.int .i64 c) := rfl

-- the values' own types

end Go.Proofs.Yteodjknknpdmeaa.PA
