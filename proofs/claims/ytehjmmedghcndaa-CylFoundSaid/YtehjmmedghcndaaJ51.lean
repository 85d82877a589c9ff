import Derived.Test.YtehjmmedghcndaaGH
import Derived.Test.YtehjmmedghcndaaQFo
section
namespace Go.Proofs.Ytehjmmedghcndaa.Pure
open Go.RowKit
open Go.Proofs.Ytehjmmedghcndaa.PG Go.Proofs.YtehjmmedghcndaaW.PrintWords Go.Proofs.YtehjmmedghcndaaW.PrintLast Go.Proofs.YtehjmmedghcndaaW.PrintMore
/-- What is left of the law CylFound: plain Lean. -/
def CylFound_ : Prop := ∀ (l0 : List Int) (a1 : Int) (a2 : Bool), l0.length ≤ maxLen → (∀ y ∈ l0, (Lit.int .u8 y).wf = true) → (Lit.int .u16 a1).wf = true → ∃ k, selvedgelaw18_CylFound.f k l0 a1 a2 = some true
end Go.Proofs.Ytehjmmedghcndaa.Pure
end
section
namespace Go.Proofs.Ytehjmmedghcndaa.Pure
open Go.RowKit
open Go.Proofs.Ytehjmmedghcndaa.PG Go.Proofs.YtehjmmedghcndaaW.PrintWords Go.Proofs.YtehjmmedghcndaaW.PrintLast Go.Proofs.YtehjmmedghcndaaW.PrintMore
theorem u8w {n : Int} (h : (Lit.int .u8 n).wf = true) : 0 ≤ n ∧ n ≤ 255 := by
 have h' := (Bool.and_eq_true _ _).mp h
 exact ⟨of_decide_eq_true h'.1, of_decide_eq_true h'.2⟩
theorem u16w {n : Int} (h : (Lit.int .u16 n).wf = true) : 0 ≤ n ∧ n ≤ 65535 := by
 have h' := (Bool.and_eq_true _ _).mp h
 exact ⟨of_decide_eq_true h'.1, of_decide_eq_true h'.2⟩
theorem CylFound : CylFound_ := fun l0 a1 a2 _ h0 h1 => ⟨6000, cylFound_is l0 (fun x hx => u8w (h0 x hx)) a1 (u16w h1) a2⟩
end Go.Proofs.Ytehjmmedghcndaa.Pure
end
