import Derived.Test.YtehjmmedghcndaaCS
section
namespace Go.Proofs.Ytehjmmedghcndaa.Pure
open Go.RowKit
open Go.Proofs.Ytehjmmedghcndaa.PG Go.Proofs.YtehjmmedghcndaaW.PrintWords Go.Proofs.YtehjmmedghcndaaW.PrintLast Go.Proofs.YtehjmmedghcndaaW.PrintMore
/-- What is left of the law CylFresh: plain Lean. -/
def CylFresh_ : Prop := ∀ (l0 : List Int) (l1 : List Int) (a2 : Int), l0.length ≤ maxLen → (∀ y ∈ l0, (Lit.int .u8 y).wf = true) → l1.length ≤ maxLen → (∀ y ∈ l1, (Lit.int .u8 y).wf = true) → (Lit.int .u16 a2).wf = true → ∃ k, selvedgelaw18_CylFresh.f k l0 l1 a2 = some true
end Go.Proofs.Ytehjmmedghcndaa.Pure
end
section
namespace Go.Proofs.Ytehjmmedghcndaa.Pure
open Go.RowKit
open Go.Proofs.Ytehjmmedghcndaa.PG Go.Proofs.YtehjmmedghcndaaW.PrintWords Go.Proofs.YtehjmmedghcndaaW.PrintLast Go.Proofs.YtehjmmedghcndaaW.PrintMore
theorem u8w {n : Int} (h : (Lit.int .u8 n).wf = true) : 0 ≤ n ∧ n ≤ 255 := by
 have h' := (Bool.and_eq_true _ _).mp h
 exact ⟨of_decide_eq_true h'.1, of_decide_eq_true h'.2⟩
theorem u16w {n : Int} (h : (Lit.int .u16 n).wf = true) : 0 ≤ n ∧ n ≤ 65535 := by
 have h' := (Bool.and_eq_true _ _).mp h
 exact ⟨of_decide_eq_true h'.1, of_decide_eq_true h'.2⟩
theorem CylFresh : CylFresh_ := fun _ _ _ _ h0 _ h1 h2 => ⟨0, if_pos ⟨(bytes_iff _).2 fun x hx => u8w (h0 x hx), (bytes_iff _).2 fun x hx => u8w (h1 x hx), u16w h2⟩⟩
end Go.Proofs.Ytehjmmedghcndaa.Pure
end
