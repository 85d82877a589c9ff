import Derived.Test.YtehjmmedghcndaaPGx0
/-! What comes later: worlds out of others by blocks laid and orders drawn. -/
namespace Go.Proofs.Ytehjmmedghcndaa.PG
open Go.RowKit Go.Proofs.YtehjmmedghcndaaW.PrintWords Go.Proofs.YtehjmmedghcndaaW.PrintLast Go.Proofs.YtehjmmedghcndaaW.PrintMore
class Later (w w' : World) : Prop where
 out : Below w.heap.size w w'
instance Later.refl_ (w : World) : Later w w := ⟨Below.refl _ _⟩
instance Later.alloc_ (w W : World) (o : Obj) [l : Later w W] : Later w (W.alloc o) := ⟨below_alloc l.out o⟩
instance Later.drew_ (w W : World) [l : Later w W] : Later w W.drew := ⟨below_drew1 l.out⟩
instance Later.drewN_ (w W : World) (n : Nat) [l : Later w W] : Later w (W.drewN n) := ⟨pw_below_drewN l.out n⟩
theorem bl {w wa W : World} (h : Aside0 (Below w.heap.size w wa)) [l : Later wa W] : Below w.heap.size w W := below_step h.out l.out
theorem bk {wa W : World} {g : Nat} {o : Obj} (h : Aside0 (wa.heap[g]? = some o)) [l : Later wa W] : W.heap[g]? = some o := blk_below h.out l.out
theorem nk {α : Type} {d : Kd α} {e : TypeId} {base : Nat} {ok : Nat → Prop} {v : Value} {xs : List α} {wa W : World} (h : Aside0 (Kd.N d e wa base ok v xs)) [l : Later wa W] : Kd.N d e W base ok v xs := Kd.N_below h.out l.out
theorem sk {α : Type} {d : Kd α} {e : TypeId} {base : Nat} {ok : Nat → Prop} {v : Value} {xs : List α} {wa W : World} (h : Aside0 (Kd.S d e wa base ok v xs)) [l : Later wa W] : Kd.S d e W base ok v xs := Kd.S_below h.out l.out
theorem rk {α : Type} {d : Kd α} {e : TypeId} {base : Nat} {ok : Nat → Prop} {v : Value} {xs : List α} {wa W : World} (h : Aside0 (Kd.R d e wa base ok v xs)) [l : Later wa W] : Kd.R d e W base ok v xs := Kd.R_below h.out l.out
theorem vk {α : Type} {d : Kd α} {e : TypeId} {base : Nat} {ok : Nat → Prop} {v : Value} {xs : List α} {wa W : World} (h : Aside0 (Kd.V d e wa base ok v xs)) [l : Later wa W] : Kd.V d e W base ok v xs := Kd.V_below h.out l.out
end Go.Proofs.Ytehjmmedghcndaa.PG
