import Derived.Test.YtehjmmedghcndaaGE
import Derived.Test.YtehjmmedghcndaaQC0
import Derived.Lib.Bytes
/-! The group that bytes say, by the reference, in plain Lean. -/
namespace Go.Proofs.Ytehjmmedghcndaa.PG
open Go.RowKit Go.Proofs.YtehjmmedghcndaaW.PrintWords Go.Proofs.YtehjmmedghcndaaW.PrintLast Go.Proofs.YtehjmmedghcndaaW.PrintMore
theorem str_inj {x y : List Int} (hx : Bt.Bytes x) (hy : Bt.Bytes y) : (strOfNums x).toList = (strOfNums y).toList ↔ x = y := by
 constructor
 ·intro h
  rw [Lib.strOfNums_toList, Lib.strOfNums_toList] at h
  unfold Lib.bytesOf at h
  have hl : x.length = y.length := by simpa using congrArg List.length h
  refine List.ext_getElem hl (fun i h1 h2 => ?_)
  have e := congrArg (fun l => l[i]?) h
  simp only [List.getElem?_map, List.getElem?_eq_getElem h1, List.getElem?_eq_getElem h2, Option.map_some, Option.some.injEq] at e
  have bx := hx _ (List.getElem_mem h1)
  have by_ := hy _ (List.getElem_mem h2)
  have e2 := congrArg UInt8.toNat e
  rw [UInt8.toNat_ofNat', UInt8.toNat_ofNat', Nat.mod_eq_of_lt (by omega), Nat.mod_eq_of_lt (by omega)] at e2
  omega
 ·rintro rfl
  rfl
/-- The numbers of the bits up to one. -/
def upBits (X : List Int) (i : Nat) : List Int := ((List.range i).filter (Bt.bit X)).map Int.ofNat
theorem upBits_succ (X : List Int) (i : Nat) : upBits X (i + 1) = if Bt.bit X i = true then upBits X i ++ [(i : Int)] else upBits X i := by
 unfold upBits
 rw [List.range_succ, List.filter_append, List.map_append]
 cases h : Bt.bit X i <;> simp [h]
theorem upBits_all (X : List Int) : upBits X (8 * X.length) = bitsOf X := (Bt.bitsOf_is X).symm
theorem upBits_len (X : List Int) (i : Nat) : (upBits X i).length ≤ i := by
 unfold upBits
 rw [List.length_map]
 exact Nat.le_trans (List.length_filter_le _ _) (by simp)
theorem bit_test {l : List Int} (hB : Bt.Bytes l) (lo hi i : Nat) (hi2 : lo + i / 8 < hi) (hlo : lo ≤ 1000) (hi3 : i ≤ 1000) :
  wrap64 ((lo : Int) + wrap64 (Int.tdiv (i : Int) 8)) = ((lo + i / 8 : Nat) : Int) ∧ (Go.bits .and .u8 (shr .u8 (rd l ((lo + i / 8 : Nat) : Int)) (Int.tmod (i : Int) 8)) 1 = 1 ↔ Bt.bit ((l.take hi).drop lo) i = true) := by
 refine ⟨by rw [Bt.div8 _ (by omega) (by omega)]; unfold wrap64; omega, ?_⟩
 have e : rd l ((lo + i / 8 : Nat) : Int) = ((l.take hi).drop lo).getD (i / 8) 0 := by
  unfold rd
  rw [Int.toNat_natCast, List.getD_eq_getElem?_getD, List.getD_eq_getElem?_getD, List.getElem?_drop, List.getElem?_take_of_lt (by omega)]
 have hb := hB.at_ (lo + i / 8)
 have hr : rd l ((lo + i / 8 : Nat) : Int) = l.getD (lo + i / 8) 0 := by unfold rd; rw [Int.toNat_natCast]
 rw [← hr] at hb
 obtain ⟨c, hc⟩ := Int.eq_ofNat_of_zero_le hb.1
 have h2 := Bt.get_byte2 c (by omega) (i % 8) (Nat.mod_lt _ (by decide))
 unfold Bt.bit
 rw [← e, hc, Int.toNat_natCast, ← h2, beq_iff_eq, Int.tmod_eq_emod_of_nonneg (by omega), show ((i : Int) % 8) = ((i % 8 : Nat) : Int) by omega]
theorem rdec_l0 {l : List Int} (hB : Bt.Bytes l) (hl : l.length = 32) (b1 b2 b3 b4 b5 : Int) : ∀ (q i : Nat) (k : Nat), i + q = 64 →
  selvedgeref18_Decode.l0 (k + q + 1) l (i : Int) b1 b2 b3 b4 b5 (upBits ((l.take 14).drop 6) i) = selvedgeref18_Decode.l1 k l 0 b1 b2 b3 b4 b5 (bitsOf ((l.take 14).drop 6)) []
 | 0, i, k, hq => by
  have hx : ((l.take 14).drop 6).length = 8 := by rw [List.length_drop, List.length_take]; omega
  have hu := upBits_all ((l.take 14).drop 6)
  rw [hx] at hu
  obtain rfl : i = 64 := by omega
  rw [show k + 0 + 1 = k + 1 by omega, selvedgeref18_Decode.l0, if_neg (by omega), ← hu]
 | q + 1, i, k, hq => by
  obtain ⟨t1, t2⟩ := bit_test hB 6 14 i (by omega) (by decide) (by omega)
  have hlen := upBits_len ((l.take 14).drop 6) i
  have ih := rdec_l0 hB hl b1 b2 b3 b4 b5 q (i + 1) k (by omega)
  rw [show k + (q + 1) + 1 = (k + q + 1) + 1 by omega, selvedgeref18_Decode.l0, if_pos (by omega), show ((6 : Int) + wrap64 (Int.tdiv (i : Int) 8)) = ((6 : Nat) : Int) + wrap64 (Int.tdiv (i : Int) 8) from rfl, t1, if_pos (by omega), if_pos (by omega), if_pos (Int.tmod_nonneg _ (by omega)), w64s i (by omega)]
  rw [upBits_succ] at ih
  by_cases hb : Bt.bit ((l.take 14).drop 6) i = true
  ·rw [if_pos hb] at ih
   rw [if_pos (t2.2 hb), if_pos (by omega)]
   exact ih
  ·rw [if_neg hb] at ih
   rw [if_neg (fun h => hb (t2.1 h))]
   exact ih
theorem rdec_l1 {l : List Int} (hB : Bt.Bytes l) (hl : l.length = 32) (b1 b2 b3 b4 b5 : Int) (F : List Int) : ∀ (q i : Nat) (k : Nat), i + q = 16 →
  selvedgeref18_Decode.l1 (k + q + 1) l (i : Int) b1 b2 b3 b4 b5 F (upBits ((l.take 16).drop 14) i) = selvedgeref18_Decode.l1 (k + 1) l 16 b1 b2 b3 b4 b5 F (bitsOf ((l.take 16).drop 14))
 | 0, i, k, hq => by
  have hx : ((l.take 16).drop 14).length = 2 := by rw [List.length_drop, List.length_take]; omega
  have hu := upBits_all ((l.take 16).drop 14)
  rw [hx] at hu
  obtain rfl : i = 16 := by omega
  rw [← hu]
  rfl
 | q + 1, i, k, hq => by
  obtain ⟨t1, t2⟩ := bit_test hB 14 16 i (by omega) (by decide) (by omega)
  have hlen := upBits_len ((l.take 16).drop 14) i
  have ih := rdec_l1 hB hl b1 b2 b3 b4 b5 F q (i + 1) k (by omega)
  rw [show k + (q + 1) + 1 = (k + q + 1) + 1 by omega, selvedgeref18_Decode.l1, if_pos (by omega), show ((14 : Int) + wrap64 (Int.tdiv (i : Int) 8)) = ((14 : Nat) : Int) + wrap64 (Int.tdiv (i : Int) 8) from rfl, t1, if_pos (by omega), if_pos (by omega), if_pos (Int.tmod_nonneg _ (by omega)), w64s i (by omega)]
  rw [upBits_succ] at ih
  by_cases hb : Bt.bit ((l.take 16).drop 14) i = true
  ·rw [if_pos hb] at ih
   rw [if_pos (t2.2 hb), if_pos (by omega)]
   exact ih
  ·rw [if_neg hb] at ih
   rw [if_neg (fun h => hb (t2.1 h))]
   exact ih
def decT (l : List Int) : Int × Int × Int × Int × Int × List Int × List Int × Int := ((decS l).1.f0, (decS l).1.f1, (decS l).1.f2, (decS l).1.f3, (decS l).1.f4, (decS l).1.f5, (decS l).1.f6, (decS l).2)
theorem rdec_is {l : List Int} (hB : Bt.Bytes l) (k : Nat) : selvedgeref18_Decode.f (k + 1301) l = some (decT l) := by
 unfold selvedgeref18_Decode.f
 by_cases hl : l.length = 32
 ·have wb : ∀ i : Nat, i ≤ 5 → wrap64 (rd l (i : Int)) = l.getD i 0 := fun i hi => by
   have hb := hB.at_ i
   unfold rd
   rw [Int.toNat_natCast]
   unfold wrap64
   omega
  rw [if_pos (by omega), if_pos (by omega), if_pos (by omega), if_pos (by omega), if_pos (by omega), if_pos (by omega)]
  rw [show wrap64 (rd l 1) = l.getD 1 0 from wb 1 (by decide), show wrap64 (rd l 2) = l.getD 2 0 from wb 2 (by decide), show wrap64 (rd l 3) = l.getD 3 0 from wb 3 (by decide), show wrap64 (rd l 4) = l.getD 4 0 from wb 4 (by decide), show wrap64 (rd l 5) = l.getD 5 0 from wb 5 (by decide)]
  have h0 := rdec_l0 hB hl (l.getD 1 0) (l.getD 2 0) (l.getD 3 0) (l.getD 4 0) (l.getD 5 0) 64 0 (k + 1236) rfl
  have h1 := rdec_l1 hB hl (l.getD 1 0) (l.getD 2 0) (l.getD 3 0) (l.getD 4 0) (l.getD 5 0) (bitsOf ((l.take 14).drop 6)) 16 0 (k + 1219) rfl
  rw [show k + 1236 + 64 + 1 = k + 1301 by omega] at h0
  rw [show k + 1219 + 16 + 1 = k + 1236 by omega] at h1
  refine (show selvedgeref18_Decode.l0 (k + 1301) l 0 _ _ _ _ _ [] = _ from h0).trans ((show selvedgeref18_Decode.l1 (k + 1236) l 0 _ _ _ _ _ _ [] = _ from h1).trans ?_)
  rw [selvedgeref18_Decode.l1, if_neg (by decide), show k + 1219 = (k + 118) + 1101 by omega]
  rw [show selvedgeref18_Encode.f ((k + 118) + 1101) (l.getD 1 0) (l.getD 2 0) (l.getD 3 0) (l.getD 4 0) (l.getD 5 0) (bitsOf ((l.take 14).drop 6)) (bitsOf ((l.take 16).drop 14)) = some (encS (decC l)) from renc_is (decC l) decC_small (k + 118), Option.bind_some]
  unfold encS
  cases hr : rightB (decC l) with
  | true =>
   rw [if_pos rfl]
   dsimp only
   rw [if_pos rfl]
   by_cases hx : encB (decC l) = l
   ·rw [if_pos ((str_inj (enc_bytes decC_small hr) hB).2 hx)]
    have hd : decS l = (decC l, 0) := if_pos ⟨hl, hr, hx⟩
    unfold decT
    rw [hd]
    rfl
   ·rw [if_neg (fun h => hx ((str_inj (enc_bytes decC_small hr) hB).1 h))]
    have hd : decS l = (⟨0, 0, 0, 0, 0, [], []⟩, 3) := if_neg (fun q => hx q.2.2)
    unfold decT
    rw [hd]
  | false =>
   rw [if_neg (show ¬ ((false : Bool) = true) by decide)]
   dsimp only
   rw [if_neg (by decide)]
   have hd : decS l = (⟨0, 0, 0, 0, 0, [], []⟩, 3) := if_neg (fun q => by rw [hr] at q; cases q.2.1)
   unfold decT
   rw [hd]
 ·rw [if_neg (by omega)]
  have hd : decS l = (⟨0, 0, 0, 0, 0, [], []⟩, 3) := if_neg (fun q => hl q.1)
  unfold decT
  rw [hd]
end Go.Proofs.Ytehjmmedghcndaa.PG
