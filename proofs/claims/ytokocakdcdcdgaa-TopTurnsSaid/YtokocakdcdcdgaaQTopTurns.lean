import Derived.Test.YtokocakdcdcdgaaSTopTurns
import Derived.Test.YtokocakdcdcdgaaTP
namespace Go.Proofs.Ytokocakdcdcdgaa.Pure
open Go.RowKit
open Go.Proofs.Ytokocakdcdcdgaa.PG Go.Proofs.YtokocakdcdcdgaaW.PrintWords Go.Proofs.YtokocakdcdcdgaaW.PrintLast Go.Proofs.YtokocakdcdcdgaaW.PrintMore
theorem u8b {n : Int} (h : (Lit.int .u8 n).wf = true) : 0 ≤ n ∧ n < 256 := by
  have h' := (Bool.and_eq_true _ _).mp h
  have h1 : (0 : Int) ≤ n := of_decide_eq_true h'.1
  have h2 : n ≤ (255 : Int) := of_decide_eq_true h'.2
  omega
theorem turns_j0 (l1 : List Int) (ho : ∀ y ∈ l1, 0 ≤ y ∧ y < 256) (l : List S41) (hl : l.length ≤ 20) : ∃ k, selvedgetop_TopTurns.j0 k l l1 = some true := by
  obtain ⟨items, k1, e1, hI⟩ := over_is l hl
  have e2 : selvedgetop_depsOf.f (items.length + 1) items = some (items.map (·.f1)) := depsOf_l0 items hI.1 items.length 0 [] (by omega) rfl
  obtain ⟨k3, e3⟩ := turns_l0 items hI l1 ho 61 0 [] rfl ⟨List.nodup_nil, dom_items hI, by simp, by simp⟩
  have a1 : merge_Overlaps.f (k1 + (items.length + 1) + k3) l = some items := at_rounds (fun k => merge_Overlaps.mono l k) (by omega) e1
  have a2 : selvedgetop_depsOf.f (k1 + (items.length + 1) + k3) items = some (items.map (·.f1)) := at_rounds (fun k => selvedgetop_depsOf.mono items k) (by omega) e2
  have a3 : selvedgetop_TopTurns.l0 (k1 + (items.length + 1) + k3) l1 items (items.map (·.f1)) [] 0 = some true := at_rounds (fun k => (selvedgetop_TopTurns.mono_l k).2.1 _ _ _ _ _) (by omega) e3
  refine ⟨k1 + (items.length + 1) + k3 + 1, ?_⟩
  rw [selvedgetop_TopTurns.j0, a1, Option.bind_some, a2, Option.bind_some]
  exact a3
theorem TopTurns : TopTurns_ := by
  intro l0 l1 _ _ _ h1
  have ho : ∀ y ∈ l1, 0 ≤ y ∧ y < 256 := fun y hy => u8b (h1 y hy)
  unfold selvedgetop_TopTurns.f
  by_cases h : (l0.length : Int) > 20
  · obtain ⟨k, hk⟩ := turns_j0 l1 ho (l0.take 20) (by rw [List.length_take]; omega)
    exact ⟨k, by rw [if_pos h, if_pos (by omega)]; exact hk⟩
  · obtain ⟨k, hk⟩ := turns_j0 l1 ho l0 (by omega)
    exact ⟨k, by rw [if_neg h]; exact hk⟩
end Go.Proofs.Ytokocakdcdcdgaa.Pure
