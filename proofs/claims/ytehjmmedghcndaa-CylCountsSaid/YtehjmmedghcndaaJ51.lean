import Derived.Test.YtehjmmedghcndaaCO
section
namespace Go.Proofs.Ytehjmmedghcndaa.Pure
open Go.RowKit
open Go.Proofs.Ytehjmmedghcndaa.PG Go.Proofs.YtehjmmedghcndaaW.PrintWords Go.Proofs.YtehjmmedghcndaaW.PrintLast Go.Proofs.YtehjmmedghcndaaW.PrintMore
/-- What is left of the law CylCounts: plain Lean. -/
def CylCounts_ : Prop := ∀ (l0 : List (S42)) (x1 : S46), l0.length ≤ maxLen → (∀ y ∈ l0, ((Lit.int .i64 y.f0).wf = true ∧ (Lit.int .i64 y.f1).wf = true ∧ (Lit.int .i64 y.f2).wf = true ∧ (Lit.int .i64 y.f3).wf = true ∧ (Lit.int .i64 y.f4).wf = true ∧ (y.f5.length ≤ maxLen ∧ ∀ y4 ∈ y.f5, (Lit.int .i64 y4).wf = true) ∧ (y.f6.length ≤ maxLen ∧ ∀ y4 ∈ y.f6, (Lit.int .i64 y4).wf = true))) → (((Lit.int .i64 x1.f0.f0).wf = true ∧ (Lit.int .i64 x1.f0.f1).wf = true ∧ (Lit.int .i64 x1.f0.f2).wf = true ∧ (Lit.int .i64 x1.f0.f3).wf = true ∧ (Lit.int .i64 x1.f0.f4).wf = true ∧ (x1.f0.f5.length ≤ maxLen ∧ ∀ y8 ∈ x1.f0.f5, (Lit.int .i64 y8).wf = true) ∧ (x1.f0.f6.length ≤ maxLen ∧ ∀ y8 ∈ x1.f0.f6, (Lit.int .i64 y8).wf = true)) ∧ ((Lit.int .i64 x1.f1.f0).wf = true ∧ (Lit.int .i64 x1.f1.f1).wf = true ∧ (Lit.int .i64 x1.f1.f2).wf = true ∧ (Lit.int .i64 x1.f1.f3).wf = true ∧ (Lit.int .i64 x1.f1.f4).wf = true ∧ (x1.f1.f5.length ≤ maxLen ∧ ∀ y8 ∈ x1.f1.f5, (Lit.int .i64 y8).wf = true) ∧ (x1.f1.f6.length ≤ maxLen ∧ ∀ y8 ∈ x1.f1.f6, (Lit.int .i64 y8).wf = true))) → ∃ k, selvedgelaw18_CylCounts.f k l0 x1.f0.f0 x1.f0.f1 x1.f0.f2 x1.f0.f3 x1.f0.f4 x1.f0.f5 x1.f0.f6 x1.f1.f0 x1.f1.f1 x1.f1.f2 x1.f1.f3 x1.f1.f4 x1.f1.f5 x1.f1.f6 = some true
end Go.Proofs.Ytehjmmedghcndaa.Pure
end
section
namespace Go.Proofs.Ytehjmmedghcndaa.Pure
open Go.RowKit
open Go.Proofs.Ytehjmmedghcndaa.PG Go.Proofs.YtehjmmedghcndaaW.PrintWords Go.Proofs.YtehjmmedghcndaaW.PrintLast Go.Proofs.YtehjmmedghcndaaW.PrintMore
theorem i64w {n : Int} (h : (Lit.int .i64 n).wf = true) : I64 n := by
 have h' := (Bool.and_eq_true _ _).mp h
 exact ⟨of_decide_eq_true h'.1, of_decide_eq_true h'.2⟩
theorem CylCounts : CylCounts_ := fun _ _ _ _ h => ⟨0, if_pos ⟨⟨i64w h.1.1, i64w h.1.2.1, i64w h.1.2.2.1, i64w h.1.2.2.2.1, i64w h.1.2.2.2.2.1⟩, ⟨i64w h.2.1, i64w h.2.2.1, i64w h.2.2.2.1, i64w h.2.2.2.2.1, i64w h.2.2.2.2.2.1⟩⟩⟩
end Go.Proofs.Ytehjmmedghcndaa.Pure
end
