import Derived.Test.YtfbjeiloefocgaaOpen
import Derived.Test.YtfbjeiloefocgaaPUx0
import Derived.KernelRfl
namespace Go.Proofs.Ytfbjeiloefocgaa.ArmFairR
open Go.RowKit
open Go.Proofs.Ytfbjeiloefocgaa.PU Go.Proofs.Ytfbjeiloefocgaa.CC Go.Proofs.YtfbjeiloefocgaaW.PrintWords Go.Proofs.YtfbjeiloefocgaaW.PrintLast Go.Proofs.YtfbjeiloefocgaaW.PrintMore
theorem rd58 : Op.Rd Try.prog k58 58 (fun x => ((Lit.int .i64 x.f0).wf = true ∧ (Lit.int .i64 x.f1).wf = true ∧ (Lit.int .u8 x.f2).wf = true)) := Op.Rd.iso (fun x : S58 => (x.f0, x.f1, x.f2)) (fun p => (⟨p.1, p.2.1, p.2.2⟩ : S58)) (fun _ => rfl) (Op.Rd.struct Try.underlying58 (ts := [3, 3, 22]) (by kernel_rfl) (by kernel_rfl) (by kernel_rfl) (Op.RdSeq.cons (Op.Rd.int Try.underlying3) (Op.RdSeq.cons (Op.Rd.int Try.underlying3) (Op.RdSeq.one (Op.Rd.int Try.underlying22)))))
end Go.Proofs.Ytfbjeiloefocgaa.ArmFairR
