import Derived.Test.YteodjknknpdmeaaOpen
import Derived.Test.YteodjknknpdmeaaPGx0
import Derived.KernelRfl
namespace Go.Proofs.Yteodjknknpdmeaa.BitsetOthersR
open Go.RowKit
open Go.Proofs.Yteodjknknpdmeaa.PG Go.Proofs.YteodjknknpdmeaaW.PrintWords Go.Proofs.YteodjknknpdmeaaW.PrintLast Go.Proofs.YteodjknknpdmeaaW.PrintMore
theorem rd30 : Op.Rd Try.prog k30 30 (fun x => ((Lit.int .i64 x.f0).wf = true ∧ (Lit.int .i64 x.f1).wf = true)) := Op.Rd.iso (fun x : S30 => (x.f0, x.f1)) (fun p => (⟨p.1, p.2⟩ : S30)) (fun _ => rfl) (Op.Rd.array Try.underlying30 (ts := [3, 3]) (by kernel_rfl) (by kernel_rfl) (Op.RdSeq.cons (Op.Rd.int Try.underlying3) (Op.RdSeq.one (Op.Rd.int Try.underlying3))))
end Go.Proofs.Yteodjknknpdmeaa.BitsetOthersR
