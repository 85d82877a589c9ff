import Derived.Test.YtehjmmedghcndaaJ32
import Derived.Test.YtehjmmedghcndaaGL
import Derived.Test.YtehjmmedghcndaaJ42
import Derived.Test.YtehjmmedghcndaaG5
import Derived.Test.YtehjmmedghcndaaJ43
/-! CylCounts, plain -/
namespace Go.Proofs.Ytehjmmedghcndaa.PG
open Go.RowKit Go.Proofs.YtehjmmedghcndaaW.PrintWords Go.Proofs.YtehjmmedghcndaaW.PrintLast Go.Proofs.YtehjmmedghcndaaW.PrintMore
/-- An int64. -/
def I64 (x : Int) : Prop := -9223372036854775808 ≤ x ∧ x ≤ 9223372036854775807
theorem xor_zero {x y : Int} (hx : I64 x) (hy : I64 y) : (Go.bits .xor .i64 x y == 0) = decide (x = y) := by
 unfold I64 at hx hy
 by_cases e : x = y
 ·subst e
  have : Go.bits .xor .i64 x x = 0 := by
   show IntKind.i64.wrap ((BitVec.ofInt 64 x ^^^ BitVec.ofInt 64 x).toNat : Int) = 0
   rw [BitVec.xor_self]
   rfl
  rw [this]
  simp
 ·have : Go.bits .xor .i64 x y ≠ 0 := by
   show IntKind.i64.wrap ((BitVec.ofInt 64 x ^^^ BitVec.ofInt 64 y).toNat : Int) ≠ 0
   intro h
   have hlt := (BitVec.ofInt 64 x ^^^ BitVec.ofInt 64 y).isLt
   have h0 : (BitVec.ofInt 64 x ^^^ BitVec.ofInt 64 y).toNat = 0 := by
    rw [IntKind.wrap_i64] at h
    omega
   have h1 : BitVec.ofInt 64 x ^^^ BitVec.ofInt 64 y = 0#64 := BitVec.eq_of_toNat_eq (by rw [h0]; rfl)
   have h2 : BitVec.ofInt 64 x = BitVec.ofInt 64 y := by
    have := congrArg (fun z => z ^^^ BitVec.ofInt 64 y) h1
    simpa [BitVec.xor_assoc] using this
   have h3 := congrArg BitVec.toInt h2
   rw [BitVec.toInt_ofInt, BitVec.toInt_ofInt] at h3
   simp only [Int.bmod_def] at h3
   omega
  simp [this, e]
theorem sub_zero {x y : Int} (hx : I64 x) (hy : I64 y) : (wrap64 (x - y) == 0) = decide (x = y) := by
 unfold I64 at hx hy
 by_cases e : x = y
 ·subst e
  simp [wrap64]
 ·have : wrap64 (x - y) ≠ 0 := by unfold wrap64; omega
  simp [this, e]
theorem drop_eq {l m : List Int} {i : Nat} (hl : i < l.length) (hm : i < m.length) : (l.drop i = m.drop i) ↔ (l[i] = m[i] ∧ l.drop (i + 1) = m.drop (i + 1)) := by
 rw [List.drop_eq_getElem_cons hl, List.drop_eq_getElem_cons hm, List.cons.injEq]
theorem equal_l0 (l m : List Int) (hl : l.length ≤ 1000) (hm : m.length = l.length) : ∀ (q i : Nat) (k : Nat), i + q = l.length → slices_Equal_int_int.l0 (k + q + 1) l m (l.length : Int) (i : Int) = some (decide (l.drop i = m.drop i))
 | 0, i, k, h => by
  rw [slices_Equal_int_int.l0, if_neg (by omega), List.drop_of_length_le (by omega), List.drop_of_length_le (by omega)]
  simp
 | q + 1, i, k, h => by
  have hi : i < l.length := by omega
  have hi2 : i < m.length := by omega
  rw [show k + (q + 1) + 1 = (k + q + 1) + 1 by omega, slices_Equal_int_int.l0, if_pos (by omega), if_pos (by omega), if_pos (by omega), if_pos (by omega), rd_at l i hi, rd_at m i hi2, w64s i (by omega), equal_l0 l m hl hm q (i + 1) k (by omega)]
  by_cases e : l[i] = m[i]
  ·rw [if_pos e]
   simp only [drop_eq hi hi2, e, true_and]
  ·rw [if_neg e]
   simp [drop_eq hi hi2, e]
theorem equal_is (l m : List Int) (hl : l.length ≤ 1000) (k : Nat) : slices_Equal_int_int.f (k + 1001) l m = some (decide (l = m)) := by
 unfold slices_Equal_int_int.f
 by_cases h : l.length = m.length
 ·rw [if_pos (by omega)]
  have := equal_l0 l m hl h.symm l.length 0 (k + (1000 - l.length)) (by omega)
  rw [show k + (1000 - l.length) + l.length + 1 = k + 1001 by omega] at this
  rw [show (0 : Int) = ((0 : Nat) : Int) from rfl, this, List.drop_zero, List.drop_zero]
 ·rw [if_neg (by omega)]
  have : ¬ l = m := fun e => h (by rw [e])
  simp [this]
/-- Two groups that read alike. -/
def sameB (x y : S42) : Bool := decide (x.f0 = y.f0) && (decide (x.f1 = y.f1) && (decide (x.f2 = y.f2) && (decide (x.f3 = y.f3) && (decide (x.f4 = y.f4) && (decide (x.f5 = y.f5) && decide (x.f6 = y.f6))))))
def IntsC (c : S42) : Prop := I64 c.f0 ∧ I64 c.f1 ∧ I64 c.f2 ∧ I64 c.f3 ∧ I64 c.f4
theorem csame_is (x y : S42) (hx : SmallC x) (ix : IntsC x) (iy : IntsC y) (k : Nat) : cyl_Same.f (k + 1001) x.f0 x.f1 x.f2 x.f3 x.f4 x.f5 x.f6 y.f0 y.f1 y.f2 y.f3 y.f4 y.f5 y.f6 = some (sameB x y) := by
 obtain ⟨a0, a1, a2, a3, a4⟩ := ix
 obtain ⟨b0, b1, b2, b3, b4⟩ := iy
 unfold cyl_Same.f sameB
 rw [sub_zero a0 b0, xor_zero a1 b1, xor_zero a2 b2, xor_zero a3 b3, xor_zero a4 b4, equal_is _ _ hx.1, equal_is _ _ hx.2, Option.bind_some, Option.bind_some]
 cases decide (x.f0 = y.f0) <;> cases decide (x.f1 = y.f1) <;> cases decide (x.f2 = y.f2) <;> cases decide (x.f3 = y.f3) <;> cases decide (x.f4 = y.f4) <;> cases decide (x.f5 = y.f5) <;> rfl
theorem sameB_self (x : S42) : sameB x x = true := by simp [sameB]
end Go.Proofs.Ytehjmmedghcndaa.PG
