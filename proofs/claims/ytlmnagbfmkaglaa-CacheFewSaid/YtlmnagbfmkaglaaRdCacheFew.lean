import Derived.Test.YtlmnagbfmkaglaaOpen
import Derived.Test.YtlmnagbfmkaglaaPMx0
import Derived.KernelRfl
namespace Go.Proofs.Ytlmnagbfmkaglaa.CacheFewR
open Go.RowKit
open Go.Proofs.Ytlmnagbfmkaglaa.PM Go.Proofs.Ytlmnagbfmkaglaa.PI Go.Proofs.Ytlmnagbfmkaglaa.CC Go.Proofs.YtlmnagbfmkaglaaW.PrintWords Go.Proofs.YtlmnagbfmkaglaaW.PrintLast Go.Proofs.YtlmnagbfmkaglaaW.PrintMore
theorem rd50 : Op.Rd Try.prog k50 50 (fun x => ((Lit.int .i64 x.f0).wf = true ∧ (Lit.int .i64 x.f1).wf = true ∧ True)) := Op.Rd.iso (fun x : S50 => (x.f0, x.f1, x.f2)) (fun p => (⟨p.1, p.2.1, p.2.2⟩ : S50)) (fun _ => rfl) (Op.Rd.struct Try.underlying50 (ts := [3, 3, 4]) (by kernel_rfl) (by kernel_rfl) (by kernel_rfl) (Op.RdSeq.cons (Op.Rd.int Try.underlying3) (Op.RdSeq.cons (Op.Rd.int Try.underlying3) (Op.RdSeq.one (Op.Rd.bool Try.underlying4)))))
end Go.Proofs.Ytlmnagbfmkaglaa.CacheFewR
