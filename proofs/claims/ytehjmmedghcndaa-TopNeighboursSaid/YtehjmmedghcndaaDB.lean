import Derived.Test.YtehjmmedghcndaaDA
import Derived.Test.YtehjmmedghcndaaGA
/-! cyl, plain: made: nothing, or groups that are whole -/
namespace Go.Proofs.Ytehjmmedghcndaa.PG
open Go.RowKit Go.Proofs.YtehjmmedghcndaaW.PrintWords Go.Proofs.YtehjmmedghcndaaW.PrintLast Go.Proofs.YtehjmmedghcndaaW.PrintMore
theorem new_right {i n : Int} (h0 : 0 ≤ i) (h1 : i < 16) (h2 : 1 ≤ n) (h3 : n ≤ 64) : RightP ⟨i, n, n, 16, 0, [], []⟩ := ⟨h0, h1, h2, h3, Int.le_refl _, (by show (0 : Int) < n; omega), rfl, rfl, by show n = n - ((0 : Nat) : Int); omega, rfl⟩
end Go.Proofs.Ytehjmmedghcndaa.PG
