import Derived.Test.YteodjknknpdmeaaOpen
import Derived.Test.YteodjknknpdmeaaPGx0
import Derived.KernelRfl
namespace Go.Proofs.Yteodjknknpdmeaa.BitsetMakesR
open Go.RowKit
open Go.Proofs.Yteodjknknpdmeaa.PG Go.Proofs.YteodjknknpdmeaaW.PrintWords Go.Proofs.YteodjknknpdmeaaW.PrintLast Go.Proofs.YteodjknknpdmeaaW.PrintMore
theorem rd43 : Op.Rd Try.prog k43 43 (fun x => ((x.f0.length ≤ maxLen ∧ ∀ y4 ∈ x.f0, (Lit.int .u8 y4).wf = true) ∧ (x.f1.length ≤ maxLen ∧ ∀ y4 ∈ x.f1, (Lit.int .u8 y4).wf = true))) := Op.Rd.iso (fun x : S43 => (x.f0, x.f1)) (fun p => (⟨p.1, p.2⟩ : S43)) (fun _ => rfl) (Op.Rd.array Try.underlying43 (ts := [22, 22]) (by kernel_rfl) (by kernel_rfl) (Op.RdSeq.cons (Op.Rd.slice Try.underlying22 (by kernel_rfl) (Op.Rd.int Try.underlying5)) (Op.RdSeq.one (Op.Rd.slice Try.underlying22 (by kernel_rfl) (Op.Rd.int Try.underlying5)))))
end Go.Proofs.Yteodjknknpdmeaa.BitsetMakesR
