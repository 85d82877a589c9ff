import Derived.Test.YtehjmmedghcndaaOpen
import Derived.Test.YtehjmmedghcndaaPGx0
import Derived.KernelRfl
namespace Go.Proofs.Ytehjmmedghcndaa.CylCodesR
open Go.RowKit
open Go.Proofs.Ytehjmmedghcndaa.PG Go.Proofs.YtehjmmedghcndaaW.PrintWords Go.Proofs.YtehjmmedghcndaaW.PrintLast Go.Proofs.YtehjmmedghcndaaW.PrintMore
theorem rd42 : Op.Rd Try.prog k42 42 (fun x => ((Lit.int .i64 x.f0).wf = true ∧ (Lit.int .i64 x.f1).wf = true ∧ (Lit.int .i64 x.f2).wf = true ∧ (Lit.int .i64 x.f3).wf = true ∧ (Lit.int .i64 x.f4).wf = true ∧ (x.f5.length ≤ maxLen ∧ ∀ y4 ∈ x.f5, (Lit.int .i64 y4).wf = true) ∧ (x.f6.length ≤ maxLen ∧ ∀ y4 ∈ x.f6, (Lit.int .i64 y4).wf = true))) := Op.Rd.iso (fun x : S42 => (x.f0, x.f1, x.f2, x.f3, x.f4, x.f5, x.f6)) (fun p => (⟨p.1, p.2.1, p.2.2.1, p.2.2.2.1, p.2.2.2.2.1, p.2.2.2.2.2.1, p.2.2.2.2.2.2⟩ : S42)) (fun _ => rfl) (Op.Rd.struct Try.underlying42 (ts := [3, 3, 3, 3, 3, 40, 40]) (by kernel_rfl) (by kernel_rfl) (by kernel_rfl) (Op.RdSeq.cons (Op.Rd.int Try.underlying3) (Op.RdSeq.cons (Op.Rd.int Try.underlying3) (Op.RdSeq.cons (Op.Rd.int Try.underlying3) (Op.RdSeq.cons (Op.Rd.int Try.underlying3) (Op.RdSeq.cons (Op.Rd.int Try.underlying3) (Op.RdSeq.cons (Op.Rd.slice Try.underlying40 (by kernel_rfl) (Op.Rd.int Try.underlying3)) (Op.RdSeq.one (Op.Rd.slice Try.underlying40 (by kernel_rfl) (Op.Rd.int Try.underlying3))))))))))
theorem rd51 : Op.Rd Try.prog k51 51 (fun x => ((Lit.int .i64 x.f0).wf = true ∧ (Lit.int .i64 x.f1).wf = true)) := Op.Rd.iso (fun x : S51 => (x.f0, x.f1)) (fun p => (⟨p.1, p.2⟩ : S51)) (fun _ => rfl) (Op.Rd.array Try.underlying51 (ts := [3, 3]) (by kernel_rfl) (by kernel_rfl) (Op.RdSeq.cons (Op.Rd.int Try.underlying3) (Op.RdSeq.one (Op.Rd.int Try.underlying3))))
end Go.Proofs.Ytehjmmedghcndaa.CylCodesR
