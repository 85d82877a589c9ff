import Derived.Test.YtehjmmedghcndaaCD
/-! cyl.first, its walk. -/
namespace Go.Proofs.Ytehjmmedghcndaa.PG
open Go.RowKit Go.Proofs.YtehjmmedghcndaaW.PrintWords Go.Proofs.YtehjmmedghcndaaW.PrintLast Go.Proofs.YtehjmmedghcndaaW.PrintMore
attribute [local go_sem] Oper.semAt_some
theorem blk_far7 {w : World} {g : Nat} {t : TypeId} {cs : Array Value} (h : w.heap[g]? = some (.cells cs t (0, 0))) {q : Nat} (hne : g ≠ q) (o : Nat) (v0 v1 v2 v3 v4 v5 v6 : Value) :
  (((((((w.setCell ⟨q, o, none⟩ v0).setCell ⟨q, o + 1, none⟩ v1).setCell ⟨q, o + 2, none⟩ v2).setCell ⟨q, o + 3, none⟩ v3).setCell ⟨q, o + 4, none⟩ v4).setCell ⟨q, o + 5, none⟩ v5).setCell ⟨q, o + 6, none⟩ v6).heap[g]? = some (.cells cs t (0, 0)) :=
 blk_far (blk_far (blk_far (blk_far (blk_far (blk_far (blk_far h hne v0) hne v1) hne v2) hne v3) hne v4) hne v5) hne v6
theorem below_set7 {B : Nat} {w0 W : World} (h : Below B w0 W) {q : Nat} (hq : B ≤ q) (o : Nat) (v0 v1 v2 v3 v4 v5 v6 : Value) :
  Below B w0 (((((((W.setCell ⟨q, o, none⟩ v0).setCell ⟨q, o + 1, none⟩ v1).setCell ⟨q, o + 2, none⟩ v2).setCell ⟨q, o + 3, none⟩ v3).setCell ⟨q, o + 4, none⟩ v4).setCell ⟨q, o + 5, none⟩ v5).setCell ⟨q, o + 6, none⟩ v6) :=
 ((((((h.setCell (p := ⟨q, o, none⟩) hq v0).setCell (p := ⟨q, o + 1, none⟩) hq v1).setCell (p := ⟨q, o + 2, none⟩) hq v2).setCell (p := ⟨q, o + 3, none⟩) hq v3).setCell (p := ⟨q, o + 4, none⟩) hq v4).setCell (p := ⟨q, o + 5, none⟩) hq v5).setCell (p := ⟨q, o + 6, none⟩) hq v6
end Go.Proofs.Ytehjmmedghcndaa.PG
