import Derived.Test.YthembklejaabiaaOpen
import Derived.Test.YthembklejaabiaaPIx0
import Derived.KernelRfl
namespace Go.Proofs.Ythembklejaabiaa.PlaceShortR
open Go.RowKit
open Go.Proofs.Ythembklejaabiaa.PI Go.Proofs.YthembklejaabiaaW.PrintWords Go.Proofs.YthembklejaabiaaW.PrintLast Go.Proofs.YthembklejaabiaaW.PrintMore
theorem rd23 : Op.Rd Try.prog k23 23 (fun x => ((Lit.int .u16 x.f0).wf = true ∧ (Lit.int .u16 x.f1).wf = true ∧ (Lit.int .u16 x.f2).wf = true)) := Op.Rd.iso (fun x : S23 => (x.f0, x.f1, x.f2)) (fun p => (⟨p.1, p.2.1, p.2.2⟩ : S23)) (fun _ => rfl) (Op.Rd.array Try.underlying23 (ts := [22, 22, 22]) (by kernel_rfl) (by kernel_rfl) (Op.RdSeq.cons (Op.Rd.int Try.underlying22) (Op.RdSeq.cons (Op.Rd.int Try.underlying22) (Op.RdSeq.one (Op.Rd.int Try.underlying22)))))
end Go.Proofs.Ythembklejaabiaa.PlaceShortR
