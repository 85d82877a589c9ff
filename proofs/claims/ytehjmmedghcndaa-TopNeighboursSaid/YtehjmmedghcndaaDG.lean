import Derived.Test.YtehjmmedghcndaaDA
import Derived.Test.YtehjmmedghcndaaDC
/-! cyl, plain: how many blocks are free behind a take; none is found where none is free -/
namespace Go.Proofs.Ytehjmmedghcndaa.PG
open Go.RowKit Go.Proofs.YtehjmmedghcndaaW.PrintWords Go.Proofs.YtehjmmedghcndaaW.PrintLast Go.Proofs.YtehjmmedghcndaaW.PrintMore
/-- An address that may be. -/
theorem may46 {l : List S42} (hw : WholeP l) {g : Nat} (hg : g < l.length) {b : Int} (h0 : 0 ≤ b) (h1 : b < l[g].f1) : mayS l (g : Int) b 46 = 0 := by
 unfold mayS
 rw [(whole_iff l).2 hw, if_neg (by decide), if_neg]
 unfold manyS
 rw [if_pos rfl, rdT_at l g hg]
 omega
end Go.Proofs.Ytehjmmedghcndaa.PG
