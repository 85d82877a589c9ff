import Derived.Test.YtokocakdcdcdgaaOpen
import Derived.Test.YtokocakdcdcdgaaPGx0
import Derived.KernelRfl
namespace Go.Proofs.Ytokocakdcdcdgaa.TopTurnsR
open Go.RowKit
open Go.Proofs.Ytokocakdcdcdgaa.PG Go.Proofs.YtokocakdcdcdgaaW.PrintWords Go.Proofs.YtokocakdcdcdgaaW.PrintLast Go.Proofs.YtokocakdcdcdgaaW.PrintMore
theorem rd41 : Op.Rd Try.prog k41 41 (fun x => ((Lit.int .i64 x.f0).wf = true ∧ (Lit.int .i64 x.f1).wf = true ∧ x.f2.size ≤ maxLen)) := Op.Rd.iso (fun x : S41 => (x.f0, x.f1, x.f2)) (fun p => (⟨p.1, p.2.1, p.2.2⟩ : S41)) (fun _ => rfl) (Op.Rd.struct Try.underlying41 (ts := [3, 3, 9]) (by kernel_rfl) (by kernel_rfl) (by kernel_rfl) (Op.RdSeq.cons (Op.Rd.int Try.underlying3) (Op.RdSeq.cons (Op.Rd.int Try.underlying3) (Op.RdSeq.one (Op.Rd.string Try.underlying9)))))
end Go.Proofs.Ytokocakdcdcdgaa.TopTurnsR
