import Derived.Test.YthembklejaabiaaPGx0
import Derived.Shelf.Slices.Delete
import Derived.Lib.OwnBridge
/-! The contract of slices.Delete over ints. -/
namespace Go.Proofs.Ythembklejaabiaa.PG
open Go.RowKit Go.Proofs.YthembklejaabiaaW.PrintWords Go.Proofs.YthembklejaabiaaW.PrintLast Go.Proofs.YthembklejaabiaaW.PrintMore
open Go.Shelf Go.Sort
def renD : Ren := ⟨fun x => if x = 23 then 35 else x, fun x => if x = 22 then 39 else x, fun x => x⟩
theorem laysD : Lays2.n23 Try.prog renD where
  mixed := by kernel_rfl
  f23 := by kernel_rfl
  t0 := by kernel_rfl
  a0 := fun w => by kernel_rfl
  z0 := fun w => by kernel_rfl
  v0 := fun w => by kernel_rfl
  t3 := by kernel_rfl
  a3 := fun w => by kernel_rfl
  z3 := fun w => by kernel_rfl
  v3 := fun w => by kernel_rfl
  t4 := by kernel_rfl
  a4 := fun w => by kernel_rfl
  z4 := fun w => by kernel_rfl
  v4 := fun w => by kernel_rfl
  t22 := by kernel_rfl
  a22 := fun w => by kernel_rfl
  z22 := fun w => by kernel_rfl
  v22 := fun w => by kernel_rfl
  i3 := by kernel_rfl
def slices_Delete_int_int.f (l0 : List Int) (a1 a2 : Int) : Option (List Int) := if 0 ≤ a1 ∧ a1 ≤ a2 ∧ a2 ≤ (l0.length : Int) ∧ 0 < l0.length then some (l0.take a1.toNat ++ l0.drop a2.toNat) else none
theorem slices_Delete_int_int.calls (P0_ : Nat → Prop) (v0 : Value) (l0 : List Int) (a1 a2 : Int) (r : List Int) (w0 w : World) (hB : Below w0.heap.size w0 w) (ho0 : Kd.R (Kd.int .i64) 3 w w0.heap.size P0_ v0 l0) (h : slices_Delete_int_int.f l0 a1 a2 = some r) :
    Calls Try.prog 35 #[v0, .int .i64 a1, .int .i64 a2] w fun e w' => ∃ v0_ : Value, e = .returned v0_ ∧ Kd.R (Kd.int .i64) 3 w' w0.heap.size (fun k_ => P0_ k_ ∨ w.heap.size ≤ k_) v0_ r ∧ Below w0.heap.size w0 w' ∧ Kept w w' P0_ := by
  unfold slices_Delete_int_int.f at h
  by_cases hc : 0 ≤ a1 ∧ a1 ≤ a2 ∧ a2 ≤ (l0.length : Int) ∧ 0 < l0.length
  · rw [if_pos hc] at h
    obtain rfl := Option.some.inj h
    obtain ⟨h1, h2, h3, h4⟩ := hc
    obtain ⟨i, rfl⟩ := Int.eq_ofNat_of_zero_le h1
    obtain ⟨j, rfl⟩ := Int.eq_ofNat_of_zero_le (show 0 ≤ a2 by omega)
    simp only [Int.toNat_natCast]
    have ho := Kd.own_of_R ho0
    have hv : v0 ≠ .slice none 0 0 := by
      rintro rfl
      rcases ho.2 with ⟨_, h0⟩ | ⟨g, cap, cur, e, _⟩
      · omega
      · cases e
    obtain ⟨g, cap, rfl, hg1, hg2, hcap, hm, -, hH⟩ := Go.Lib.holds_of_ownsRow (enc := Value.int .i64) ho hv
    have hP : P0_ g := ho0.1 g (by simp [Value.ownBlock])
    refine (Any.slices_Delete_int laysD g 0 cap i j l0 w hH hcap (by simpa [maxLen] using hm) (by omega) (by omega)).mono ?_
    rintro e w' ⟨rfl, q, rfl⟩
    have hlen : (l0.take i ++ l0.drop j ++ List.replicate (j - i) 0).length = l0.length := by simp; omega
    have hr := Go.Lib.ownsRow_putRow (q := q) (k := l0.length - (j - i)) ho hlen (by omega)
    have ht : (l0.take i ++ l0.drop j ++ List.replicate (j - i) 0).take (l0.length - (j - i)) = l0.take i ++ l0.drop j := by
      rw [List.take_append_of_le_length (by simp; omega), List.take_of_length_le (by simp; omega)]
    rw [ht] at hr
    have hl2 : (l0.take i ++ l0.drop j).length = l0.length - (j - i) := by simp; omega
    refine ⟨_, rfl, Kd.R_of_own (by rw [hl2]; exact hr) (fun k hk => .inl ?_), Go.Lib.below_putRow hB hg1, ?_⟩
    · have : g = k := by simpa [Value.ownBlock] using hk
      exact this ▸ hP
    · refine ⟨by simp [putRow, mapBlock, Sort.ahead], fun k _ hk2 => ?_⟩
      have : g ≠ k := fun e => hk2 (e ▸ hP)
      simp [putRow, mapBlock, Sort.ahead, Array.getElem?_modify, this]
  · rw [if_neg hc] at h
    exact absurd h (by simp)
end Go.Proofs.Ythembklejaabiaa.PG
