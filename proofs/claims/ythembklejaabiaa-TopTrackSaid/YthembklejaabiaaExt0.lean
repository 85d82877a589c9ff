import Derived.Test.YthembklejaabiaaPL8
import Derived.RangeFuncNested
import Derived.RangeFuncBound
import Derived.RangeFuncCalls
import Derived.RangeFuncLeaves
import Derived.RangeFuncBox
import Derived.Shelf.Abstract
import Derived.Shelf.RegionOpen
import Derived.WalkKit
import Derived.WalkSpells
import Derived.Lib.Hide
import Derived.OwnWalkIn
import Derived.TacticsInMore
import Derived.LoopNIn
import Derived.LoopIn
import Derived.Maps.AppendAt
import Derived.Sort.QuietIn
import Derived.BigRegionIn
namespace Go.Proofs.Ythembklejaabiaa.PG
open Go.RowKit Go.Proofs.YthembklejaabiaaW.PrintWords Go.Proofs.YthembklejaabiaaW.PrintLast Go.Proofs.YthembklejaabiaaW.PrintMore
open Go.Shelf

attribute [local go_sem] Oper.semAt_some

/-! ### plain: the bits of a byte -/
def tz8 (c : Int) : Int := bt (⟨#[8, 0, 1, 0, 2, 0, 1, 0, 3, 0, 1, 0, 2, 0, 1, 0, 4, 0, 1, 0, 2, 0, 1, 0, 3, 0, 1, 0, 2, 0, 1, 0, 5, 0, 1, 0, 2, 0, 1, 0, 3, 0, 1, 0, 2, 0, 1, 0, 4, 0, 1, 0, 2, 0, 1, 0, 3, 0, 1, 0, 2, 0, 1, 0, 6, 0, 1, 0, 2, 0, 1, 0, 3, 0, 1, 0, 2, 0, 1, 0, 4, 0, 1, 0, 2, 0, 1, 0, 3, 0, 1, 0, 2, 0, 1, 0, 5, 0, 1, 0, 2, 0, 1, 0, 3, 0, 1, 0, 2, 0, 1, 0, 4, 0, 1, 0, 2, 0, 1, 0, 3, 0, 1, 0, 2, 0, 1, 0, 7, 0, 1, 0, 2, 0, 1, 0, 3, 0, 1, 0, 2, 0, 1, 0, 4, 0, 1, 0, 2, 0, 1, 0, 3, 0, 1, 0, 2, 0, 1, 0, 5, 0, 1, 0, 2, 0, 1, 0, 3, 0, 1, 0, 2, 0, 1, 0, 4, 0, 1, 0, 2, 0, 1, 0, 3, 0, 1, 0, 2, 0, 1, 0, 6, 0, 1, 0, 2, 0, 1, 0, 3, 0, 1, 0, 2, 0, 1, 0, 4, 0, 1, 0, 2, 0, 1, 0, 3, 0, 1, 0, 2, 0, 1, 0, 5, 0, 1, 0, 2, 0, 1, 0, 3, 0, 1, 0, 2, 0, 1, 0, 4, 0, 1, 0, 2, 0, 1, 0, 3, 0, 1, 0, 2, 0, 1, 0]⟩ : ByteArray) c
/-- The bits of a byte, rising. -/
def bits8 (c : Int) : List Int := ((List.range 8).filter (fun j => c.toNat.testBit j)).map Int.ofNat
/-- The bits of bytes, rising, from the k-th byte on. -/
def bitsFrom : Nat → List Int → List Int
  | _, [] => []
  | k, c :: cs => (bits8 c).map (fun t => 8 * (k : Int) + t) ++ bitsFrom (k + 1) cs
def bitsOf (l : List Int) : List Int := bitsFrom 0 l
theorem bits8_step_nat : ∀ n : Nat, n < 256 → 0 < n → bits8 (n : Int) = tz8 (n : Int) :: bits8 (Go.bits .and .u8 (n : Int) ((n : Int) - 1)) ∧ 0 ≤ Go.bits .and .u8 (n : Int) ((n : Int) - 1) ∧ Go.bits .and .u8 (n : Int) ((n : Int) - 1) < (n : Int) ∧ 0 ≤ tz8 (n : Int) ∧ tz8 (n : Int) < 8 := by decide +kernel
theorem bits8_step (c : Int) (h0 : 0 < c) (h1 : c < 256) : bits8 c = tz8 c :: bits8 (Go.bits .and .u8 c (c - 1)) ∧ 0 ≤ Go.bits .and .u8 c (c - 1) ∧ Go.bits .and .u8 c (c - 1) < c ∧ 0 ≤ tz8 c ∧ tz8 c < 8 := by
  obtain ⟨n, rfl⟩ := Int.eq_ofNat_of_zero_le (Int.le_of_lt h0)
  exact bits8_step_nat n (by omega) (by omega)
theorem bits8_zero : bits8 0 = [] := by decide +kernel
theorem bitsFrom_append (l m : List Int) : ∀ k, bitsFrom k (l ++ m) = bitsFrom k l ++ bitsFrom (k + l.length) m := by
  induction l with
  | nil => intro k; simp [bitsFrom]
  | cons c cs ih => intro k; simp only [List.cons_append, bitsFrom, ih, List.append_assoc, List.length_cons]; rw [show k + 1 + cs.length = k + (cs.length + 1) by omega]
theorem bitsFrom_take_succ (zs : List Int) (k : Nat) (h : k < zs.length) : bitsOf (zs.take (k + 1)) = bitsOf (zs.take k) ++ (bits8 (zs.getD k 0)).map (fun t => 8 * (k : Int) + t) := by
  unfold bitsOf
  rw [List.take_succ_eq_append_getElem h, bitsFrom_append]
  simp [bitsFrom, List.length_take, Nat.min_eq_left (Nat.le_of_lt h), h]
theorem bitsFrom_split (zs : List Int) (k : Nat) (h : k < zs.length) : bitsOf zs = bitsOf (zs.take k) ++ ((bits8 (zs.getD k 0)).map (fun t => 8 * (k : Int) + t) ++ bitsFrom (k + 1) (zs.drop (k + 1))) := by
  unfold bitsOf
  conv => lhs; rw [← List.take_append_drop k zs]
  rw [bitsFrom_append, List.drop_eq_getElem_cons h]
  simp [bitsFrom, List.length_take, Nat.min_eq_left (Nat.le_of_lt h), h]
theorem bits8_len (c : Int) : (bits8 c).length ≤ 8 := by
  unfold bits8
  rw [List.length_map]
  exact Nat.le_trans (List.length_filter_le _ _) (by simp)
theorem bitsFrom_len (l : List Int) : ∀ k, (bitsFrom k l).length ≤ 8 * l.length := by
  induction l with
  | nil => intro k; simp [bitsFrom]
  | cons c cs ih => intro k; have := ih (k + 1); have := bits8_len c; simp [bitsFrom]; omega
theorem bitsOf_len (l : List Int) : (bitsOf l).length ≤ 8 * l.length := bitsFrom_len l 0

/-- What the iterator wants of its bytes. -/
def Fine (zs : List Int) : Prop := (∀ x ∈ zs, 0 ≤ x ∧ x < 256) ∧ zs.length ≤ 1099511627776
instance (zs : List Int) : Decidable (Fine zs) := by unfold Fine; infer_instance
theorem Fine.at_ {zs : List Int} (h : Fine zs) (k : Nat) (hk : k < zs.length) : 0 ≤ zs.getD k 0 ∧ zs.getD k 0 < 256 := by
  have := h.1 (zs[k]) (List.getElem_mem hk)
  simpa [hk] using this

set_option maxRecDepth 100000 in
set_option maxHeartbeats 1000000 in
theorem tz_in (F : Fence) (n : Nat) (h35 : F.fn 45) (hro : F.round = none) (c : Int) (h0 : 0 ≤ c) (h1 : c < 256) (w : World) :
    CallsIn F n Try.prog 45 #[.int .u8 c] w fun e w' => e = .returned (.int .i64 (tz8 c)) ∧ w = w' := by
  have hx4 := bt_at (⟨#[8, 0, 1, 0, 2, 0, 1, 0, 3, 0, 1, 0, 2, 0, 1, 0, 4, 0, 1, 0, 2, 0, 1, 0, 3, 0, 1, 0, 2, 0, 1, 0, 5, 0, 1, 0, 2, 0, 1, 0, 3, 0, 1, 0, 2, 0, 1, 0, 4, 0, 1, 0, 2, 0, 1, 0, 3, 0, 1, 0, 2, 0, 1, 0, 6, 0, 1, 0, 2, 0, 1, 0, 3, 0, 1, 0, 2, 0, 1, 0, 4, 0, 1, 0, 2, 0, 1, 0, 3, 0, 1, 0, 2, 0, 1, 0, 5, 0, 1, 0, 2, 0, 1, 0, 3, 0, 1, 0, 2, 0, 1, 0, 4, 0, 1, 0, 2, 0, 1, 0, 3, 0, 1, 0, 2, 0, 1, 0, 7, 0, 1, 0, 2, 0, 1, 0, 3, 0, 1, 0, 2, 0, 1, 0, 4, 0, 1, 0, 2, 0, 1, 0, 3, 0, 1, 0, 2, 0, 1, 0, 5, 0, 1, 0, 2, 0, 1, 0, 3, 0, 1, 0, 2, 0, 1, 0, 4, 0, 1, 0, 2, 0, 1, 0, 3, 0, 1, 0, 2, 0, 1, 0, 6, 0, 1, 0, 2, 0, 1, 0, 3, 0, 1, 0, 2, 0, 1, 0, 4, 0, 1, 0, 2, 0, 1, 0, 3, 0, 1, 0, 2, 0, 1, 0, 5, 0, 1, 0, 2, 0, 1, 0, 3, 0, 1, 0, 2, 0, 1, 0, 4, 0, 1, 0, 2, 0, 1, 0, 3, 0, 1, 0, 2, 0, 1, 0]⟩ : ByteArray) c
  have hr : 0 ≤ tz8 c ∧ tz8 c ≤ 255 := bt_range _ c
  have hrr : wrap64 (tz8 c) = tz8 c := by unfold wrap64; omega
  change ∀ h : _, _ = tz8 c at hx4
  have Hr := Lib.hid hrr
  clear hrr hr
  have h0' := eq_true h0
  have h1' := eq_true h1
  refine callsIn_of_wp Try.func45 rfl h35 ?_ hro
  simp only [Try.ntmps45, List.size_toArray, List.length_cons, List.length_nil, Nat.reduceAdd, Nat.reduceSub, Array.replicate_succ, Array.replicate_zero, List.push_toArray, List.append_toArray, List.nil_append, List.cons_append]
  gi_wp2
  go_ret
  exact ⟨by first | rfl | (rw [Hr.out]; rfl), rfl⟩
end Go.Proofs.Ythembklejaabiaa.PG
