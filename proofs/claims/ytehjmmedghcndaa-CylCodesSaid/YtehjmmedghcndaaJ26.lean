import Derived.Test.YtehjmmedghcndaaCT
import Derived.Sort.CutIn
import Derived.BigRegionIn
section
/-! A range over an iterator that ranges over an iterator itself. -/
namespace Go.Proofs.Ytehjmmedghcndaa.PG
open Go.RowKit Go.Proofs.YtehjmmedghcndaaW.PrintWords Go.Proofs.YtehjmmedghcndaaW.PrintLast Go.Proofs.YtehjmmedghcndaaW.PrintMore
open Go.Shelf
attribute [local go_sem] Oper.semAt_some
/-- All blocks but one are as they were. -/
structure KeepsBut (l : Nat) (W W' : World) : Prop where
 size : W.heap.size ≤ W'.heap.size
 same : ∀ (k : Nat) (o : Obj), k ≠ l → W.heap[k]? = some o → W'.heap[k]? = some o
theorem KeepsBut.trans {l : Nat} {A B C : World} (h : KeepsBut l A B) (k : KeepsBut l B C) : KeepsBut l A C := ⟨Nat.le_trans h.size k.size, fun i o hi ho => k.same i o hi (h.same i o hi ho)⟩
theorem KeepsBut.put (l : Nat) (W : World) (o : Obj) : KeepsBut l W (W.putObj l o) := ⟨by simp, fun k o' hk ho => (World.putObj_heap_other hk).trans ho⟩
theorem KeepsBut.below {l : Nat} {W W' : World} (h : Below W.heap.size W W') : KeepsBut l W W' := ⟨h.size, fun k _ _ hk => (h.block k (Array.getElem?_eq_some_iff.1 hk).1).trans hk⟩
theorem KeepsBut.drew (l : Nat) (W : World) : KeepsBut l W W.drew := ⟨Nat.le_refl _, fun _ _ _ h => h⟩
theorem KeepsBut.from {l B : Nat} {W W' : World} (h : KeepsBut l W W') (hl : l < B) : KeepsFrom B W W' := ⟨h.size, fun k o hk ho _ => h.same k o (by omega) ho⟩
/-- Two blocks are as they were. -/
def KeepsTwo (p q : Nat) (X Y : World) : Prop := ∀ (k : Nat) (o : Obj), (k = p ∨ k = q) → X.heap[k]? = some o → Y.heap[k]? = some o
theorem KeepsTwo.trans {p q : Nat} {A B C : World} (h : KeepsTwo p q A B) (k : KeepsTwo p q B C) : KeepsTwo p q A C := fun i o hi ho => k i o hi (h i o hi ho)
theorem KeepsBut.two {l p q : Nat} {X Y : World} (h : KeepsBut l X Y) (hp : p ≠ l) (hq : q ≠ l) : KeepsTwo p q X Y := fun k o hk ho => h.same k o (by rcases hk with rfl | rfl <;> assumption) ho
end Go.Proofs.Ytehjmmedghcndaa.PG
end
section
/-! The groups in which a file's inode is looked for: the iterator. -/
namespace Go.Proofs.Ytehjmmedghcndaa.PG
open Go.RowKit Go.Proofs.YtehjmmedghcndaaW.PrintWords Go.Proofs.YtehjmmedghcndaaW.PrintLast Go.Proofs.YtehjmmedghcndaaW.PrintMore
open Go.Shelf
attribute [local go_sem] Oper.semAt_some
section
variable {P : Program} {ops : Array Oper} {Q : Exit → Act → World → Prop} {n i : Nat} {o : Oper} {a : Act} {w : World} {K : Act → World → Prop}
end
end Go.Proofs.Ytehjmmedghcndaa.PG
end
