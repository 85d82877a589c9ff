import Derived.Test.YtehjmmedghcndaaOpen
import Derived.Test.YtehjmmedghcndaaPGx0
import Derived.KernelRfl
namespace Go.Proofs.Ytehjmmedghcndaa.TopNeighboursR
open Go.RowKit
open Go.Proofs.Ytehjmmedghcndaa.PG Go.Proofs.YtehjmmedghcndaaW.PrintWords Go.Proofs.YtehjmmedghcndaaW.PrintLast Go.Proofs.YtehjmmedghcndaaW.PrintMore
theorem rd65 : Op.Rd Try.prog k65 65 (fun x => ((Lit.int .u8 x.f0).wf = true ∧ (Lit.int .u8 x.f1).wf = true ∧ (Lit.int .u8 x.f2).wf = true)) := Op.Rd.iso (fun x : S65 => (x.f0, x.f1, x.f2)) (fun p => (⟨p.1, p.2.1, p.2.2⟩ : S65)) (fun _ => rfl) (Op.Rd.array Try.underlying65 (ts := [5, 5, 5]) (by kernel_rfl) (by kernel_rfl) (Op.RdSeq.cons (Op.Rd.int Try.underlying5) (Op.RdSeq.cons (Op.Rd.int Try.underlying5) (Op.RdSeq.one (Op.Rd.int Try.underlying5)))))
end Go.Proofs.Ytehjmmedghcndaa.TopNeighboursR
