import Derived.Test.YtehjmmedghcndaaGG
import Derived.Test.YtehjmmedghcndaaQBk
section
namespace Go.Proofs.Ytehjmmedghcndaa.Pure
open Go.RowKit
open Go.Proofs.Ytehjmmedghcndaa.PG Go.Proofs.YtehjmmedghcndaaW.PrintWords Go.Proofs.YtehjmmedghcndaaW.PrintLast Go.Proofs.YtehjmmedghcndaaW.PrintMore
/-- What is left of the law CylBack: plain Lean. -/
def CylBack_ : Prop := ∀ (x0 : S42) (l1 : List Int) (x2 : S60), ((Lit.int .i64 x0.f0).wf = true ∧ (Lit.int .i64 x0.f1).wf = true ∧ (Lit.int .i64 x0.f2).wf = true ∧ (Lit.int .i64 x0.f3).wf = true ∧ (Lit.int .i64 x0.f4).wf = true ∧ (x0.f5.length ≤ maxLen ∧ ∀ y5 ∈ x0.f5, (Lit.int .i64 y5).wf = true) ∧ (x0.f6.length ≤ maxLen ∧ ∀ y5 ∈ x0.f6, (Lit.int .i64 y5).wf = true)) → l1.length ≤ maxLen → (∀ y ∈ l1, (Lit.int .u8 y).wf = true) → ((Lit.int .u8 x2.f0).wf = true ∧ (Lit.int .u8 x2.f1).wf = true) → ∃ k, selvedgelaw18_CylBack.f k x0.f0 x0.f1 x0.f2 x0.f3 x0.f4 x0.f5 x0.f6 l1 x2.f0 x2.f1 = some true
end Go.Proofs.Ytehjmmedghcndaa.Pure
end
section
namespace Go.Proofs.Ytehjmmedghcndaa.Pure
open Go.RowKit
open Go.Proofs.Ytehjmmedghcndaa.PG Go.Proofs.YtehjmmedghcndaaW.PrintWords Go.Proofs.YtehjmmedghcndaaW.PrintLast Go.Proofs.YtehjmmedghcndaaW.PrintMore
theorem u8w {n : Int} (h : (Lit.int .u8 n).wf = true) : 0 ≤ n ∧ n ≤ 255 := by
 have h' := (Bool.and_eq_true _ _).mp h
 exact ⟨of_decide_eq_true h'.1, of_decide_eq_true h'.2⟩
theorem CylBack : CylBack_ := fun x0 l1 x2 _ _ h1 h2 => ⟨1002, cylBack_is x0 l1 (fun y hy => by have := u8w (h1 y hy); exact ⟨this.1, by omega⟩) x2.f0 x2.f1 (u8w h2.1) (u8w h2.2)⟩
end Go.Proofs.Ytehjmmedghcndaa.Pure
end
