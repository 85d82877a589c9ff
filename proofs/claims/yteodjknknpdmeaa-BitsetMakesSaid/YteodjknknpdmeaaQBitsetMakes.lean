import Derived.Test.YteodjknknpdmeaaSBitsetMakes
import Derived.Test.YteodjknknpdmeaaB7
namespace Go.Proofs.Yteodjknknpdmeaa.Pure
open Go.RowKit
open Go.Proofs.Yteodjknknpdmeaa.PG Go.Proofs.YteodjknknpdmeaaW.PrintWords Go.Proofs.YteodjknknpdmeaaW.PrintLast Go.Proofs.YteodjknknpdmeaaW.PrintMore
theorem wo_len (b l : List Int) (hn : l.length ≤ 80) : (wo b (bitsOf l)).length ≤ 1000 := by
  have := bitsOf_len l
  have : (wo b (bitsOf l)).length ≤ (bitsOf l).length := List.length_filter_le _ _
  omega
theorem makes_j0 (a : Int) (ns u v : List Int) (hns : ns.length ≤ 1000) (hb : ∀ y ∈ ns, -9223372036854775808 ≤ y ∧ y ≤ 9223372036854775807) (hu : Bytes u) (hv : Bytes v) : Ev (fun k => selvedgelaw02_BitsetMakes.j0 k a ns u v) true := by
  have hun : (u.take 80).length ≤ 80 := by simp; omega
  have hul := hu.take 80
  have hvl := hv.take 80
  refine Ev.step (fun k => rfl) ?_
  refine Ev.bind (make_is a ns hns hb) (Ev.bind (refmake_is a ns hns hb) (Ev.bind live_ev ?_))
  simp only [if_true, few_is, Option.bind_some]
  have e : bitset_Without.f (u.take 80) (v.take 80) = some (wo (v.take 80) (bitsOf (u.take 80))) := by
    unfold bitset_Without.f
    rw [if_pos (fine_of hul (by omega))]
  simp only [e, Option.bind_some]
  refine Ev.bind (refwo_is _ _ hul hun hvl) (Ev.bind (same_is _ (wo_len _ _ hun)) (Ev.now _))
theorem BitsetMakes : BitsetMakes_ := by
  intro a0 l1 x2 ha hm hg h2
  have hb : ∀ y ∈ l1, -9223372036854775808 ≤ y ∧ y ≤ 9223372036854775807 := fun y hy => i64b (hg y hy)
  apply Ev.rounds
  unfold selvedgelaw02_BitsetMakes.f
  by_cases h : (l1.length : Int) > 100
  · refine Ev.congr (fun k => ?_) (makes_j0 a0 (l1.take 100) x2.f0 x2.f1 (by simp; omega) (fun y hy => hb y (List.mem_of_mem_take hy)) (bytes_of h2.1.2) (bytes_of h2.2.2))
    rw [if_pos h, if_pos (by omega)]
  · refine Ev.congr (fun k => ?_) (makes_j0 a0 l1 x2.f0 x2.f1 (by omega) hb (bytes_of h2.1.2) (bytes_of h2.2.2))
    rw [if_neg h]
end Go.Proofs.Yteodjknknpdmeaa.Pure
