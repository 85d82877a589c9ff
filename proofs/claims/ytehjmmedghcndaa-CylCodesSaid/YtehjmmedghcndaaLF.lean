import Derived.Test.YtehjmmedghcndaaPGx0
/-! Rows behind the stores of a group into a block of another type: short words. -/
namespace Go.Proofs.Ytehjmmedghcndaa.PG
open Go.RowKit Go.Proofs.YtehjmmedghcndaaW.PrintWords Go.Proofs.YtehjmmedghcndaaW.PrintLast Go.Proofs.YtehjmmedghcndaaW.PrintMore
/-- A block that is none of a slice's. -/
abbrev nB (k : Nat) (A : Option Addr) (l : List Int) (c : Nat) : Prop := some k ≠ (.slice A l.length c : Value).ownBlock
theorem rf7 {α : Type} {d : Kd α} {e base g t : Nat} {w : World} {ok ok' : Nat → Prop} {v : Value} {xs : List α} {cs : Array Value} {v0 v1 v2 v3 v4 v5 v6 : Value} (h : Kd.R d e w base ok v xs) (hb : w.heap[g]? = some (.cells cs t (0, 0))) (ht : ∀ q, q ∈ e :: d.E → q ≠ t) (hok : ∀ k, ok k ∧ k ≠ g → ok' k) :
  Kd.R d e (((((((w.setCell ⟨g, 0, none⟩ v0).setCell ⟨g, 1, none⟩ v1).setCell ⟨g, 2, none⟩ v2).setCell ⟨g, 3, none⟩ v3).setCell ⟨g, 4, none⟩ v4).setCell ⟨g, 5, none⟩ v5).setCell ⟨g, 6, none⟩ v6) base ok' v xs :=
 Kd.R_mono (Kd.R_far (Kd.R_far (Kd.R_far (Kd.R_far (Kd.R_far (Kd.R_far (Kd.R_far (Kd.R_types h hb ht) (fun _ hk => hk.2) v0) (fun _ hk => hk.2) v1) (fun _ hk => hk.2) v2) (fun _ hk => hk.2) v3) (fun _ hk => hk.2) v4) (fun _ hk => hk.2) v5) (fun _ hk => hk.2) v6) hok
theorem vf7 {α : Type} {d : Kd α} {e base g : Nat} {w : World} {ok ok' : Nat → Prop} {v : Value} {xs : List α} {v0 v1 v2 v3 v4 v5 v6 : Value} (h : Kd.V d e w base ok v xs) (hg : ∀ k, ok k → k ≠ g) (hok : ∀ k, ok k ∧ k ≠ g → ok' k) :
  Kd.V d e (((((((w.setCell ⟨g, 0, none⟩ v0).setCell ⟨g, 1, none⟩ v1).setCell ⟨g, 2, none⟩ v2).setCell ⟨g, 3, none⟩ v3).setCell ⟨g, 4, none⟩ v4).setCell ⟨g, 5, none⟩ v5).setCell ⟨g, 6, none⟩ v6) base ok' v xs :=
 Kd.V_mono (Kd.V_far (Kd.V_far (Kd.V_far (Kd.V_far (Kd.V_far (Kd.V_far (Kd.V_far (Kd.V_mono h (fun k hk => (⟨hk, hg k hk⟩ : ok k ∧ k ≠ g))) (fun _ hk => hk.2) v0) (fun _ hk => hk.2) v1) (fun _ hk => hk.2) v2) (fun _ hk => hk.2) v3) (fun _ hk => hk.2) v4) (fun _ hk => hk.2) v5) (fun _ hk => hk.2) v6) hok
theorem bf7 {w : World} {g q : Nat} {t : TypeId} {cs : Array Value} {v0 v1 v2 v3 v4 v5 v6 : Value} (h : w.heap[g]? = some (.cells cs t (0, 0))) (hne : g ≠ q) :
  (((((((w.setCell ⟨q, 0, none⟩ v0).setCell ⟨q, 1, none⟩ v1).setCell ⟨q, 2, none⟩ v2).setCell ⟨q, 3, none⟩ v3).setCell ⟨q, 4, none⟩ v4).setCell ⟨q, 5, none⟩ v5).setCell ⟨q, 6, none⟩ v6).heap[g]? = some (.cells cs t (0, 0)) :=
 blk_far (blk_far (blk_far (blk_far (blk_far (blk_far (blk_far h hne v0) hne v1) hne v2) hne v3) hne v4) hne v5) hne v6
theorem bp7 {w : World} {g : Nat} {t : TypeId} {c0 c1 c2 c3 c4 c5 c6 v0 v1 v2 v3 v4 v5 v6 : Value} (h : w.heap[g]? = some (.cells #[c0, c1, c2, c3, c4, c5, c6] t (0, 0))) :
  (((((((w.setCell ⟨g, 0, none⟩ v0).setCell ⟨g, 1, none⟩ v1).setCell ⟨g, 2, none⟩ v2).setCell ⟨g, 3, none⟩ v3).setCell ⟨g, 4, none⟩ v4).setCell ⟨g, 5, none⟩ v5).setCell ⟨g, 6, none⟩ v6).heap[g]? = some (.cells #[v0, v1, v2, v3, v4, v5, v6] t (0, 0)) :=
 blk_put (cs := #[v0, v1, v2, v3, v4, v5, c6]) (blk_put (cs := #[v0, v1, v2, v3, v4, c5, c6]) (blk_put (cs := #[v0, v1, v2, v3, c4, c5, c6]) (blk_put (cs := #[v0, v1, v2, c3, c4, c5, c6]) (blk_put (cs := #[v0, v1, c2, c3, c4, c5, c6]) (blk_put (cs := #[v0, c1, c2, c3, c4, c5, c6]) (blk_put (cs := #[c0, c1, c2, c3, c4, c5, c6]) h 0 _ rfl) 1 _ rfl) 2 _ rfl) 3 _ rfl) 4 _ rfl) 5 _ rfl) 6 _ rfl
end Go.Proofs.Ytehjmmedghcndaa.PG
