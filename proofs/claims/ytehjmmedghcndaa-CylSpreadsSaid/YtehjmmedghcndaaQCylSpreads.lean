import Derived.Test.YtehjmmedghcndaaSCylSpreads
import Derived.Test.YtehjmmedghcndaaQSp
namespace Go.Proofs.Ytehjmmedghcndaa.Pure
open Go.RowKit
open Go.Proofs.Ytehjmmedghcndaa.PG Go.Proofs.YtehjmmedghcndaaW.PrintWords Go.Proofs.YtehjmmedghcndaaW.PrintLast Go.Proofs.YtehjmmedghcndaaW.PrintMore
theorem u8b {n : Int} (h : (Lit.int .u8 n).wf = true) : 0 ≤ n ∧ n < 256 := by
 have h' := (Bool.and_eq_true _ _).mp h
 have h1 : (0 : Int) ≤ n := of_decide_eq_true h'.1
 have h2 : n ≤ (255 : Int) := of_decide_eq_true h'.2
 omega
theorem wf_u8 {x : Int} (h : (Lit.int .u8 x).wf = true) : 0 ≤ x ∧ x ≤ 255 := by
 have := u8b h
 omega
theorem CylSpreads : CylSpreads_ := fun l0 l1 a2 _ h0 _ h1 h2 => ⟨3200, cylSpreads_is l0 l1 a2 (fun x hx => wf_u8 (h0 x hx)) (fun x hx => wf_u8 (h1 x hx)) (wf_u8 h2)⟩
end Go.Proofs.Ytehjmmedghcndaa.Pure
