import Derived.WideLaws
import Derived.Test.YtfbjeiloefocgaaWMore
/-! A store of a float. -/
namespace Go.Proofs.YtfbjeiloefocgaaW.PrintMore
open Go
variable {P : Program} {w : World}
theorem run_store_float (a : Addr) (m : Mode) (k : FloatKind) (x : Nat) : (store a (.float k x) m).run P w = stored P w a (.float k x) m := run_store P w a _ m rfl
end Go.Proofs.YtfbjeiloefocgaaW.PrintMore
