import Derived.Test.YtfbjeiloefocgaaOpen
import Derived.Test.YtfbjeiloefocgaaPQx0
import Derived.KernelRfl
namespace Go.Proofs.Ytfbjeiloefocgaa.ArmAllsR
open Go.RowKit
open Go.Proofs.Ytfbjeiloefocgaa.PQ Go.Proofs.Ytfbjeiloefocgaa.CC Go.Proofs.YtfbjeiloefocgaaW.PrintWords Go.Proofs.YtfbjeiloefocgaaW.PrintLast Go.Proofs.YtfbjeiloefocgaaW.PrintMore
theorem rd25 : Op.Rd Try.prog k25 25 (fun x => ((Lit.int .u8 x.f0).wf = true ∧ (Lit.int .i64 x.f1).wf = true ∧ (Lit.int .i64 x.f2).wf = true ∧ (x.f3.length ≤ maxLen ∧ ∀ y4 ∈ x.f3, (Lit.int .i64 y4).wf = true))) := Op.Rd.iso (fun x : S25 => (x.f0, x.f1, x.f2, x.f3)) (fun p => (⟨p.1, p.2.1, p.2.2.1, p.2.2.2⟩ : S25)) (fun _ => rfl) (Op.Rd.struct Try.underlying25 (ts := [22, 3, 3, 23]) (by kernel_rfl) (by kernel_rfl) (by kernel_rfl) (Op.RdSeq.cons (Op.Rd.int Try.underlying22) (Op.RdSeq.cons (Op.Rd.int Try.underlying3) (Op.RdSeq.cons (Op.Rd.int Try.underlying3) (Op.RdSeq.one (Op.Rd.slice Try.underlying23 (by kernel_rfl) (Op.Rd.int Try.underlying3)))))))
end Go.Proofs.Ytfbjeiloefocgaa.ArmAllsR
