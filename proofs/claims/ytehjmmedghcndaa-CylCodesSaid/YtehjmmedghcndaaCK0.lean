import Derived.Test.YtehjmmedghcndaaCM
import Derived.Test.YtehjmmedghcndaaG6
import Derived.Laws.CopyOwn
import Derived.Deep.WholeRow
/-! The sum of a group's header: its walk. -/
namespace Go.Proofs.Ytehjmmedghcndaa.PG
open Go.RowKit Go.Proofs.YtehjmmedghcndaaW.PrintWords Go.Proofs.YtehjmmedghcndaaW.PrintLast Go.Proofs.YtehjmmedghcndaaW.PrintMore
def sumN (H : List Int) (k : Nat) : Int := (H.take k).foldl (fun a c => (a + c) % 256) 0
theorem sumN_succ (H : List Int) (k : Nat) (h : k < H.length) : sumN H (k + 1) = (sumN H k + H.getD k 0) % 256 := by
  unfold sumN
  rw [List.take_succ_eq_append_getElem h, List.foldl_append]
  simp [List.getD_eq_getElem?_getD, h]
/-- A block of bytes. -/
def Hd (w : World) (g : Nat) (H : List Int) : Prop := w.heap[g]? = some (.cells (H.map (Value.int .u8)).toArray 84 (0, 0))
theorem Hd.cell {w : World} {g : Nat} {H : List Int} (h : Hd w g H) {k : Nat} (hk : k < H.length) : w.cell? ⟨g, k, none⟩ = some (.int .u8 (H.getD k 0)) := by
  have h' : w.heap[g]? = _ := h
  simp [World.cell?, h', hk]
theorem Hd.below {w w1 : World} {g : Nat} {H : List Int} (h : Hd w g H) (hb : Below w.heap.size w w1) : Hd w1 g H := (hb.block g (Array.getElem?_eq_some_iff.1 h).1).trans h
set_option maxHeartbeats 4000000 in
set_option maxRecDepth 100000 in
theorem sum_calls (g : Nat) (H : List Int) (w : World) (hg : Hd w g H) (hl : H.length = 32) :
    Calls Try.prog 64 #[.pointer (some ⟨g, 0, none⟩)] w fun e w' => e = .returned (.int .u8 (sumN H 31)) ∧ Below w.heap.size w w' := by
  have HG := Aside0.mk hg
  have HL := Aside0.mk hl
  clear hg hl
  go_enter Try.func64, Try.ntmps64
  go_wp2
  go_loopw [2, 4, 9] (fun v2 _ v9 wr => ∃ k : Nat, k ≤ 31 ∧ v2 = .int .u8 (sumN H k) ∧ v9 = .int .i64 k ∧ Below w.heap.size w wr) (fun _ _ v9 _ => 31 - (intOf v9).toNat)
  case atStart => exact ⟨0, Nat.zero_le _, rfl, rfl, by first | exact Below.refl _ _ | (apply below_drew1; exact Below.refl _ _)⟩
  case round =>
    obtain ⟨k, hk, rfl, rfl, hB⟩ := hrel
    by_cases hlt : k < 31
    · have hc : wr.cell? ⟨g, k, none⟩ = some (.int .u8 (H.getD k 0)) := (HG.out.below hB).cell (by have := HL.out; omega)
      have hs := sumN_succ H k (by have := HL.out; omega)
      generalize H.getD k 0 = x at hc hs
      go_wp2
      go_roundw
      case rel => exact ⟨k + 1, hlt, by rw [hs], by go_num, hB⟩
      case measure => simp [intOf]; omega
    · obtain rfl : k = 31 := by omega
      go_wp2
      go_ret
      exact ⟨rfl, hB⟩
end Go.Proofs.Ytehjmmedghcndaa.PG
