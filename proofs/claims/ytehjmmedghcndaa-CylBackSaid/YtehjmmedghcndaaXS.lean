import Derived.WideLaws
import Derived.Test.YtehjmmedghcndaaWMore
/-! A store of a value that takes one cell. -/
namespace Go.Proofs.YtehjmmedghcndaaW.PrintMore
open Go Go.Proofs.YtehjmmedghcndaaW.PrintWords Go.Proofs.YtehjmmedghcndaaW.PrintLast
variable {P : Program} {w : World}
theorem run_store_one (a : Addr) (m : Mode) (v : Value) (hv : v.oneCell' = true) : (store a v m).run P w = stored P w a v m := run_store P w a _ m hv
theorem Kd.R_one {α : Type} {d : Kd α} {e base : Nat} {ok : Nat → Prop} {v : Value} {xs : List α} (h : d.R e w base ok v xs) : v.oneCell' = true := by
 obtain ⟨_, cs, ho, _⟩ := h
 rcases ho.2 with ⟨rfl, _⟩ | ⟨g, cap, cur, rfl, _⟩ <;> rfl
end Go.Proofs.YtehjmmedghcndaaW.PrintMore
