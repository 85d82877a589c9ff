import Derived.Test.YtehjmmedghcndaaJ24
import Derived.RangeFuncNested
import Derived.RangeFuncBound
import Derived.RangeFuncCalls
import Derived.RangeFuncLeaves
import Derived.RangeFuncBox
import Derived.Shelf.Abstract
import Derived.Shelf.RegionOpen
import Derived.WalkKit
import Derived.WalkSpells
import Derived.Lib.Hide
import Derived.OwnWalkIn
import Derived.TacticsInMore
import Derived.LoopNIn
import Derived.LoopIn
import Derived.Maps.AppendAt
import Derived.Sort.QuietIn
import Derived.BigRegionIn
/-! The numbers below another one, from one on, round: the iterator. -/
namespace Go.Proofs.Ytehjmmedghcndaa.PG
open Go.RowKit Go.Proofs.YtehjmmedghcndaaW.PrintWords Go.Proofs.YtehjmmedghcndaaW.PrintLast Go.Proofs.YtehjmmedghcndaaW.PrintMore
open Go.Shelf
attribute [local go_sem] Oper.semAt_some
/-- The numbers below n, from fr on, round. -/
def roundL (fr n : Nat) : List Int := (List.range n).map fun i => (((fr + i) % n : Nat) : Int)
theorem roundL_len (fr n : Nat) : (roundL fr n).length = n := by simp [roundL]
theorem roundL_take (fr n k : Nat) (h : k < n) : (roundL fr n).take (k + 1) = (roundL fr n).take k ++ [(((fr + k) % n : Nat) : Int)] := by
 rw [List.take_succ_eq_append_getElem (by rw [roundL_len]; exact h)]
 simp [roundL]
/-- A number below n. -/
abbrev Rng (n : Nat) : Type := { x : Int // 0 ≤ x ∧ x < (n : Int) }
set_option maxRecDepth 100000 in
set_option maxHeartbeats 2000000 in
theorem round1_in (F : Fence) (n : Nat) (h73 : F.fn 73) (hro : F.round = none) (hn : 1 ≤ n) (l Bn Bf n₀ : Nat) (fr m : Nat) (hfr : fr ≤ 100000) (hm : m ≤ 100000) (J Jx : List (Rng m) → World → Prop)
  (hY : ∀ pre (x : Rng m) W, J pre W → pre.length < m → YieldAt F (n - 1) Try.prog l #[.int .i64 x.1] W fun e W' =>
   (e = .returned (.bool true) ∧ J (pre ++ [x]) W' ∧ Below n₀ W W') ∨ (e = .returned (.bool false) ∧ Jx (pre ++ [x]) W'))
  (W : World) (hn1 : Bn < n₀) (hf1 : Bf < n₀) (hBn : W.cell? ⟨Bn, 0, none⟩ = some (.int .i64 (m : Int))) (hBf : W.cell? ⟨Bf, 0, none⟩ = some (.int .i64 (fr : Int))) (h0 : J [] W) :
  CallsIn F n Try.prog 73 #[.func (.yield l) #[] #[], .pointer (some ⟨Bn, 0, none⟩), .pointer (some ⟨Bf, 0, none⟩)] W fun e W' => (∃ v, e = .returned v) ∧
   ((∃ ys : List (Rng m), ys.map (·.1) = roundL fr m ∧ J ys W') ∨ (∃ pre : List (Rng m), pre.map (·.1) <+: roundL fr m ∧ Jx pre W')) := by
 refine callsIn_of_wp Try.func73 rfl h73 ?_ hro
 simp only [Try.ntmps73, List.size_toArray, List.length_cons, List.length_nil, Nat.reduceAdd, Nat.reduceSub, Array.replicate_succ, Array.replicate_zero, List.push_toArray, List.append_toArray, List.nil_append, List.cons_append]
 gi_wp2
 gi_loopw [4, 6] (fun _ i wr => ∃ k : Nat, k ≤ m ∧ i = .int .i64 k ∧ ∃ ys : List (Rng m), Aside0 (ys.map (·.1) = (roundL fr m).take k) ∧ J ys wr ∧ Below n₀ W wr)
  (fun _ i _ => m - (intOf i).toNat)
 case atStart => exact ⟨0, Nat.zero_le _, rfl, [], ⟨rfl⟩, h0, Below.refl _ _⟩
 case round =>
  obtain ⟨k, hk, rfl, ys, hys, hJs, hB⟩ := hrel
  by_cases hlt : k < m
  ·have cn : wr.cell? ⟨Bn, 0, none⟩ = some (.int .i64 (m : Int)) := (hB.cell (p := ⟨Bn, 0, none⟩) hn1).trans hBn
   have cf : wr.cell? ⟨Bf, 0, none⟩ = some (.int .i64 (fr : Int)) := (hB.cell (p := ⟨Bf, 0, none⟩) hf1).trans hBf
   have hlen : ys.length = k := by have := congrArg List.length hys.out; rw [List.length_map, List.length_take, roundL_len] at this; omega
   have hxr : 0 ≤ (((fr + k) % m : Nat) : Int) ∧ (((fr + k) % m : Nat) : Int) < (m : Int) := ⟨by omega, by have := Nat.mod_lt (fr + k) (show 0 < m by omega); omega⟩
   have hts := roundL_take fr m k hlt
   have em : Int.tmod ((fr : Int) + (k : Int)) (m : Int) = (((fr + k) % m : Nat) : Int) := by
    rw [show ((fr : Int) + (k : Int)) = ((fr + k : Nat) : Int) by omega]
    exact Int.ofNat_tmod _ _
   have e2 : ((fr : Int) + (k : Int)) % (m : Int) = (((fr + k) % m : Nat) : Int) := by
    rw [show (fr : Int) + (k : Int) = ((fr + k : Nat) : Int) by omega]; rfl
   generalize (((fr + k) % m : Nat) : Int) = x at hxr hts em e2
   obtain ⟨xr, hxs⟩ : ∃ s : Rng m, s.1 = x := ⟨⟨x, hxr⟩, rfl⟩
   obtain ⟨fn, tmps, assign, body, hy, hR⟩ := hY ys xr wr hJs (by omega)
   have Hts := Lib.hid hts
   have HX := Lib.hid hxs
   rw [hxs] at hy
   have hpos : 1 ≤ m := by omega
   have hne : ((m : Int) == 0) = false := by rw [beq_eq_false_iff_ne]; omega
   clear hxr hts hxs
   gi_wp2
   refine hR.mono ?_
   rintro e W3 (⟨rfl, hJ3, hk3⟩ | ⟨rfl, hJx3⟩)
   ·gi_wp2
    go_roundw
    case rel => exact ⟨k + 1, by omega, by go_num, ys ++ [xr], ⟨by rw [List.map_append, hys.out, Hts.out, List.map_cons, HX.out]; rfl⟩, hJ3, hB.trans hk3⟩
    case measure => simp [intOf]; omega
   ·gi_wp2
    refine bodyPost_ret (results_none rfl _ _ _) rfl ?_
    exact ⟨⟨_, rfl⟩, .inr ⟨_, by rw [List.map_append, hys.out, List.map_cons, HX.out]; exact (show (roundL fr m).take k ++ [x] <+: roundL fr m from by rw [← Hts.out]; exact List.take_prefix _ _), hJx3⟩⟩
  ·obtain rfl : k = m := by omega
   gi_wp2
   go_end0
   exact ⟨⟨_, rfl⟩, .inl ⟨ys, by rw [hys.out, List.take_of_length_le (by rw [roundL_len]; omega)], hJs⟩⟩
theorem round_in (F : Fence) (n : Nat) (h48 : F.fn 48) (hro : F.round = none) (a m : Int) (w : World) :
  CallsIn F n Try.prog 48 #[.int .i64 a, .int .i64 m] w fun e w' => e = .returned (.func (.func 73) #[] #[.pointer (some ⟨w.heap.size + 1, 0, none⟩), .pointer (some ⟨w.heap.size, 0, none⟩)]) ∧ w' = (w.alloc (.cells #[.int .i64 a] 3)).alloc (.cells #[.int .i64 m] 3) := by
 refine callsIn_of_wp Try.func48 rfl h48 ?_ hro
 simp only [Try.ntmps48, List.size_toArray, List.length_cons, List.length_nil, Nat.reduceAdd, Nat.reduceSub, Array.replicate_succ, Array.replicate_zero, List.push_toArray, List.append_toArray, List.nil_append, List.cons_append]
 gi_wp2
 go_ret
 exact ⟨rfl, rfl⟩
theorem round_stops (F : Fence) (n : Nat) (h73 : F.fn 73) (hro : F.round = none) (hn : 1 ≤ n) (Bn Bf n₀ : Nat) (fr m : Nat) (hfr : fr ≤ 100000) (hm : m ≤ 100000) (w : World) (hn1 : Bn < n₀) (hf1 : Bf < n₀) (hn2 : n₀ ≤ w.heap.size) (hBn : w.cell? ⟨Bn, 0, none⟩ = some (.int .i64 (m : Int))) (hBf : w.cell? ⟨Bf, 0, none⟩ = some (.int .i64 (fr : Int))) :
  SeqStopsK F n Try.prog 73 #[.pointer (some ⟨Bn, 0, none⟩), .pointer (some ⟨Bf, 0, none⟩)] (fun x : Rng m => #[Value.int .i64 x.1]) (Below n₀) (fun ys => ys.map (·.1) = roundL fr m) (fun pre => pre.map (·.1) <+: roundL fr m) m w := fun l J Jx W hW _ _ hY h0 =>
 round1_in F n h73 hro hn l Bn Bf n₀ fr m hfr hm J Jx hY W hn1 hf1 ((hW.cell (p := ⟨Bn, 0, none⟩) (by show Bn < _; omega)).trans hBn) ((hW.cell (p := ⟨Bf, 0, none⟩) (by show Bf < _; omega)).trans hBf) h0
/-- What a turn of blocks that are no cells leaves. -/
theorem ownF_blk {α : Type} (B g : Nat) (t : TypeId) (cs : α → Array Value) : OwnFrom B (fun (s : α) W => W.heap[g]? = some (.cells (cs s) t (0, 0))) :=
 fun s A B' row hs hg hr => (hg.block g (blk_lt hs) (fun e => by obtain ⟨_, o, ho, hc⟩ := hr g e.symm; rw [hs] at ho; obtain rfl := Option.some.inj ho; cases hc)).trans hs
theorem ownF_S {α : Type} (B base : Nat) (v : Value) (xs : α → List S42) : OwnFrom B (fun (s : α) W => Kd.S k42 42 W base (fun _ => True) v (xs s)) :=
 fun s A B' row hs hg hr => Kd.S_mono (Kd.S_grown (Kd.S_bound hs) hg (fun k hk e => by obtain ⟨_, o, ho, hc⟩ := hr k e.symm; obtain ⟨_, _, _, q, _, cells, hcl⟩ := hk; rw [hcl] at ho; obtain rfl := Option.some.inj ho; cases hc)) (fun _ _ => trivial)
end Go.Proofs.Ytehjmmedghcndaa.PG
