import Derived.Test.YtehjmmedghcndaaSTopNeighbours
import Derived.Test.YtehjmmedghcndaaQNe
namespace Go.Proofs.Ytehjmmedghcndaa.Pure
open Go.RowKit
open Go.Proofs.Ytehjmmedghcndaa.PG Go.Proofs.YtehjmmedghcndaaW.PrintWords Go.Proofs.YtehjmmedghcndaaW.PrintLast Go.Proofs.YtehjmmedghcndaaW.PrintMore
theorem u8w {n : Int} (h : (Lit.int .u8 n).wf = true) : 0 ≤ n ∧ n ≤ 255 := by
 have h' := (Bool.and_eq_true _ _).mp h
 exact ⟨of_decide_eq_true h'.1, of_decide_eq_true h'.2⟩
theorem TopNeighbours : TopNeighbours_ := fun x0 a1 h0 h1 => ⟨3200, topNeighbours_is x0.f0 x0.f1 x0.f2 a1 (u8w h0.1) (u8w h0.2.1) (u8w h0.2.2) (u8w h1)⟩
end Go.Proofs.Ytehjmmedghcndaa.Pure
