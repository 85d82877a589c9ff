import Derived.Test.YtehjmmedghcndaaPGx0
import Derived.RangeFuncNested
import Derived.RangeFuncBound
import Derived.RangeFuncCalls
import Derived.RangeFuncLeaves
import Derived.RangeFuncBox
import Derived.Shelf.Abstract
import Derived.Shelf.RegionOpen
import Derived.WalkKit
import Derived.WalkSpells
import Derived.Lib.Hide
import Derived.OwnWalkIn
import Derived.TacticsInMore
import Derived.LoopNIn
import Derived.LoopIn
import Derived.Maps.AppendAt
import Derived.Sort.QuietIn
import Derived.BigRegionIn
/-! The numbers of a set's bits (bitset.List): its contract. -/
namespace Go.Proofs.Ytehjmmedghcndaa.PG
open Go.RowKit Go.Proofs.YtehjmmedghcndaaW.PrintWords Go.Proofs.YtehjmmedghcndaaW.PrintLast Go.Proofs.YtehjmmedghcndaaW.PrintMore
open Go.Shelf
attribute [local go_sem] Oper.semAt_some

/-! ### plain: the bits of a byte -/
def tz8 (c : Int) : Int := bt (⟨#[8, 0, 1, 0, 2, 0, 1, 0, 3, 0, 1, 0, 2, 0, 1, 0, 4, 0, 1, 0, 2, 0, 1, 0, 3, 0, 1, 0, 2, 0, 1, 0, 5, 0, 1, 0, 2, 0, 1, 0, 3, 0, 1, 0, 2, 0, 1, 0, 4, 0, 1, 0, 2, 0, 1, 0, 3, 0, 1, 0, 2, 0, 1, 0, 6, 0, 1, 0, 2, 0, 1, 0, 3, 0, 1, 0, 2, 0, 1, 0, 4, 0, 1, 0, 2, 0, 1, 0, 3, 0, 1, 0, 2, 0, 1, 0, 5, 0, 1, 0, 2, 0, 1, 0, 3, 0, 1, 0, 2, 0, 1, 0, 4, 0, 1, 0, 2, 0, 1, 0, 3, 0, 1, 0, 2, 0, 1, 0, 7, 0, 1, 0, 2, 0, 1, 0, 3, 0, 1, 0, 2, 0, 1, 0, 4, 0, 1, 0, 2, 0, 1, 0, 3, 0, 1, 0, 2, 0, 1, 0, 5, 0, 1, 0, 2, 0, 1, 0, 3, 0, 1, 0, 2, 0, 1, 0, 4, 0, 1, 0, 2, 0, 1, 0, 3, 0, 1, 0, 2, 0, 1, 0, 6, 0, 1, 0, 2, 0, 1, 0, 3, 0, 1, 0, 2, 0, 1, 0, 4, 0, 1, 0, 2, 0, 1, 0, 3, 0, 1, 0, 2, 0, 1, 0, 5, 0, 1, 0, 2, 0, 1, 0, 3, 0, 1, 0, 2, 0, 1, 0, 4, 0, 1, 0, 2, 0, 1, 0, 3, 0, 1, 0, 2, 0, 1, 0]⟩ : ByteArray) c
/-- The bits of a byte, rising. -/
def bits8 (c : Int) : List Int := ((List.range 8).filter (fun j => c.toNat.testBit j)).map Int.ofNat
/-- The bits of bytes, rising, from the k-th byte on. -/
def bitsFrom : Nat → List Int → List Int
 | _, [] => []
 | k, c :: cs => (bits8 c).map (fun t => 8 * (k : Int) + t) ++ bitsFrom (k + 1) cs
def bitsOf (l : List Int) : List Int := bitsFrom 0 l
theorem bits8_step_nat : ∀ n : Nat, n < 256 → 0 < n → bits8 (n : Int) = tz8 (n : Int) :: bits8 (Go.bits .and .u8 (n : Int) ((n : Int) - 1)) ∧ 0 ≤ Go.bits .and .u8 (n : Int) ((n : Int) - 1) ∧ Go.bits .and .u8 (n : Int) ((n : Int) - 1) < (n : Int) ∧ 0 ≤ tz8 (n : Int) ∧ tz8 (n : Int) < 8 := by decide +kernel
theorem bits8_step (c : Int) (h0 : 0 < c) (h1 : c < 256) : bits8 c = tz8 c :: bits8 (Go.bits .and .u8 c (c - 1)) ∧ 0 ≤ Go.bits .and .u8 c (c - 1) ∧ Go.bits .and .u8 c (c - 1) < c ∧ 0 ≤ tz8 c ∧ tz8 c < 8 := by
 obtain ⟨n, rfl⟩ := Int.eq_ofNat_of_zero_le (Int.le_of_lt h0)
 exact bits8_step_nat n (by omega) (by omega)
theorem bits8_zero : bits8 0 = [] := by decide +kernel
theorem bitsFrom_append (l m : List Int) : ∀ k, bitsFrom k (l ++ m) = bitsFrom k l ++ bitsFrom (k + l.length) m := by
 induction l with
 | nil => intro k; simp [bitsFrom]
 | cons c cs ih => intro k; simp only [List.cons_append, bitsFrom, ih, List.append_assoc, List.length_cons]; rw [show k + 1 + cs.length = k + (cs.length + 1) by omega]
theorem bitsFrom_take_succ (zs : List Int) (k : Nat) (h : k < zs.length) : bitsOf (zs.take (k + 1)) = bitsOf (zs.take k) ++ (bits8 (zs.getD k 0)).map (fun t => 8 * (k : Int) + t) := by
 unfold bitsOf
 rw [List.take_succ_eq_append_getElem h, bitsFrom_append]
 simp [bitsFrom, List.length_take, Nat.min_eq_left (Nat.le_of_lt h), h]
theorem bitsFrom_split (zs : List Int) (k : Nat) (h : k < zs.length) : bitsOf zs = bitsOf (zs.take k) ++ ((bits8 (zs.getD k 0)).map (fun t => 8 * (k : Int) + t) ++ bitsFrom (k + 1) (zs.drop (k + 1))) := by
 unfold bitsOf
 conv => lhs; rw [← List.take_append_drop k zs]
 rw [bitsFrom_append, List.drop_eq_getElem_cons h]
 simp [bitsFrom, List.length_take, Nat.min_eq_left (Nat.le_of_lt h), h]
theorem bits8_len (c : Int) : (bits8 c).length ≤ 8 := by
 unfold bits8
 rw [List.length_map]
 exact Nat.le_trans (List.length_filter_le _ _) (by simp)
theorem bitsFrom_len (l : List Int) : ∀ k, (bitsFrom k l).length ≤ 8 * l.length := by
 induction l with
 | nil => intro k; simp [bitsFrom]
 | cons c cs ih => intro k; have := ih (k + 1); have := bits8_len c; simp [bitsFrom]; omega
theorem bitsOf_len (l : List Int) : (bitsOf l).length ≤ 8 * l.length := bitsFrom_len l 0

/-- What the iterator wants of its bytes. -/
def Fine (zs : List Int) : Prop := (∀ x ∈ zs, 0 ≤ x ∧ x < 256) ∧ zs.length ≤ 1099511627776
instance (zs : List Int) : Decidable (Fine zs) := by unfold Fine; infer_instance
theorem Fine.at_ {zs : List Int} (h : Fine zs) (k : Nat) (hk : k < zs.length) : 0 ≤ zs.getD k 0 ∧ zs.getD k 0 < 256 := by
 have := h.1 (zs[k]) (List.getElem_mem hk)
 simpa [hk] using this

set_option maxRecDepth 100000 in
set_option maxHeartbeats 1000000 in
theorem tz_in (F : Fence) (n : Nat) (h35 : F.fn 87) (hro : F.round = none) (c : Int) (h0 : 0 ≤ c) (h1 : c < 256) (w : World) :
  CallsIn F n Try.prog 87 #[.int .u8 c] w fun e w' => e = .returned (.int .i64 (tz8 c)) ∧ w = w' := by
 have hx4 := bt_at (⟨#[8, 0, 1, 0, 2, 0, 1, 0, 3, 0, 1, 0, 2, 0, 1, 0, 4, 0, 1, 0, 2, 0, 1, 0, 3, 0, 1, 0, 2, 0, 1, 0, 5, 0, 1, 0, 2, 0, 1, 0, 3, 0, 1, 0, 2, 0, 1, 0, 4, 0, 1, 0, 2, 0, 1, 0, 3, 0, 1, 0, 2, 0, 1, 0, 6, 0, 1, 0, 2, 0, 1, 0, 3, 0, 1, 0, 2, 0, 1, 0, 4, 0, 1, 0, 2, 0, 1, 0, 3, 0, 1, 0, 2, 0, 1, 0, 5, 0, 1, 0, 2, 0, 1, 0, 3, 0, 1, 0, 2, 0, 1, 0, 4, 0, 1, 0, 2, 0, 1, 0, 3, 0, 1, 0, 2, 0, 1, 0, 7, 0, 1, 0, 2, 0, 1, 0, 3, 0, 1, 0, 2, 0, 1, 0, 4, 0, 1, 0, 2, 0, 1, 0, 3, 0, 1, 0, 2, 0, 1, 0, 5, 0, 1, 0, 2, 0, 1, 0, 3, 0, 1, 0, 2, 0, 1, 0, 4, 0, 1, 0, 2, 0, 1, 0, 3, 0, 1, 0, 2, 0, 1, 0, 6, 0, 1, 0, 2, 0, 1, 0, 3, 0, 1, 0, 2, 0, 1, 0, 4, 0, 1, 0, 2, 0, 1, 0, 3, 0, 1, 0, 2, 0, 1, 0, 5, 0, 1, 0, 2, 0, 1, 0, 3, 0, 1, 0, 2, 0, 1, 0, 4, 0, 1, 0, 2, 0, 1, 0, 3, 0, 1, 0, 2, 0, 1, 0]⟩ : ByteArray) c
 have hr : 0 ≤ tz8 c ∧ tz8 c ≤ 255 := bt_range _ c
 have hrr : wrap64 (tz8 c) = tz8 c := by unfold wrap64; omega
 change ∀ h : _, _ = tz8 c at hx4
 have Hr := Lib.hid hrr
 clear hrr hr
 have h0' := eq_true h0
 have h1' := eq_true h1
 refine callsIn_of_wp Try.func87 rfl h35 ?_ hro
 simp only [Try.ntmps87, List.size_toArray, List.length_cons, List.length_nil, Nat.reduceAdd, Nat.reduceSub, Array.replicate_succ, Array.replicate_zero, List.push_toArray, List.append_toArray, List.nil_append, List.cons_append]
 gi_wp2
 go_ret
 exact ⟨by first | rfl | (rw [Hr.out]; rfl), rfl⟩

set_option maxRecDepth 100000 in
set_option maxHeartbeats 2000000 in
/-- The closure of set: for every loop body that keeps what lay below. -/
theorem set1_in (F : Fence) (n : Nat) (h34 : F.fn 86) (h35 : F.fn 87) (hro : F.round = none) (hn : 1 ≤ n) (l Bs n₀ : Nat) (w0 : World) (hn0 : w0.heap.size ≤ n₀) (A : Option Addr) (c : Nat) (zs : List Int) (hC : Kd.C (Kd.int .u8) w0 A zs.length zs) (hf : Fine zs) (J Jx : List Int → World → Prop)
  (hY : ∀ pre x W, J pre W → pre.length < (bitsOf zs).length → YieldAt F (n - 1) Try.prog l #[.int .i64 x] W fun e W' =>
   (e = .returned (.bool true) ∧ J (pre ++ [x]) W' ∧ Below n₀ W W') ∨ (e = .returned (.bool false) ∧ Jx (pre ++ [x]) W'))
  (W : World) (hW : Below n₀ w0 W) (hBs : W.cell? ⟨Bs, 0, none⟩ = some (.slice A zs.length c)) (h0 : J [] W) :
  CallsIn F n Try.prog 86 #[.func (.yield l) #[] #[], .pointer (some ⟨Bs, 0, none⟩)] W fun e W' => (∃ v, e = .returned v) ∧
   ((∃ ys, ys = bitsOf zs ∧ J ys W') ∨ (∃ pre, pre <+: bitsOf zs ∧ Jx pre W')) := by
 have hlen := hf.2
 refine callsIn_of_wp Try.func86 rfl h34 ?_ hro
 simp only [Try.ntmps86, List.size_toArray, List.length_cons, List.length_nil, Nat.reduceAdd, Nat.reduceSub, Array.replicate_succ, Array.replicate_zero, List.push_toArray, List.append_toArray, List.nil_append, List.cons_append]
 gi_wp2
 gi_loopw [3, 4, 7] (fun _ _ i wr => ∃ k : Nat, k ≤ zs.length ∧ i = .int .i64 k ∧ J (bitsOf (zs.take k)) wr ∧ Below n₀ w0 wr)
  (fun _ _ i _ => zs.length - (intOf i).toNat)
 case atStart => exact ⟨0, Nat.zero_le _, rfl, h0, hW⟩
 case round =>
  obtain ⟨k, hk, rfl, hJs, hB⟩ := hrel
  by_cases hlt : k < zs.length
  ·have hsp := bitsFrom_split zs k hlt
   have hts := bitsFrom_take_succ zs k hlt
   obtain ⟨hc0, hc1⟩ := hf.at_ k hlt
   have hCk : ∃ ad, A = some ad ∧ wr.cell? (ad.add k) = some (.int .u8 (zs.getD k 0)) := by
    obtain ⟨ad, e, hh⟩ := Kd.at_int hC (k : Int) (by omega) (by omega)
    exact ⟨ad, e, by have := pw_cell_below (hB.mono hn0) hh; simpa [rd] using this⟩
   obtain ⟨ad, rfl, hcell⟩ := hCk
   generalize hz : zs.getD k 0 = z at *
   have Hsp := Lib.hid hsp
   have Hts := Lib.hid hts
   have Hz := Lib.hid hz
   clear hsp hts hz
   gi_wp2
   obtain ⟨wo, rfl⟩ : ∃ wo : World, wo = wr := ⟨_, rfl⟩
   gi_loopw [4] (fun v4 wr => ∃ (q : Int) (dn : List Int), 0 ≤ q ∧ q < 256 ∧ v4 = .int .u8 q ∧ Aside0 ((bits8 z).map (fun t => 8 * (k : Int) + t) = dn ++ (bits8 q).map (fun t => 8 * (k : Int) + t)) ∧ J (bitsOf (zs.take k) ++ dn) wr ∧ Below n₀ w0 wr)
    (fun v4 _ => (intOf v4).toNat)
   case atStart => exact ⟨z, [], hc0, hc1, rfl, ⟨rfl⟩, by simpa using hJs, hB⟩
   case round =>
    obtain ⟨q, dn, hq0, hq1, rfl, hdn, hJs1, hB1⟩ := hrel
    by_cases hq : 0 < q
    ·obtain ⟨hst, hn0, hn1, ht0, ht1⟩ := bits8_step q hq hq1
     have hlt2 : (bitsOf (zs.take k) ++ dn).length < (bitsOf zs).length := by
      rw [Hsp.out, hdn.out, hst]; simp
     obtain ⟨fn, tmps, assign, body, hy, hR⟩ := hY _ (8 * (k : Int) + tz8 q) wr hJs1 hlt2
     have Hst := Lib.hid hst
     clear hst
     have hne : (q != 0) = true := by rw [bne_iff_ne]; omega
     gi_wp2_with (gi_at_call 87; refine (tz_in F _ h35 hro q hq0 hq1 _).mono ?_; rintro e w' ⟨rfl, rfl⟩)
     refine hR.mono ?_
     rintro e W3 (⟨rfl, hJ3, hk3⟩ | ⟨rfl, hJx3⟩)
     ·gi_wp2
      go_roundw
      case rel => exact ⟨_, dn ++ [8 * (k : Int) + tz8 q], hn0, by omega, rfl, ⟨by rw [hdn.out, Hst.out]; simp⟩, by rw [← List.append_assoc]; exact hJ3, hB1.trans hk3⟩
      case measure => simp [intOf]; omega
     ·gi_wp2
      refine bodyPost_ret (results_none rfl _ _ _) rfl ?_
      refine ⟨⟨_, rfl⟩, .inr ⟨_, ?_, hJx3⟩⟩
      rw [Hsp.out, hdn.out, Hst.out]
      simp
    ·obtain rfl : q = 0 := by omega
     have hd : (bits8 z).map (fun t => 8 * (k : Int) + t) = dn := by rw [hdn.out, bits8_zero]; simp
     rw [← hd, ← Hts.out] at hJs1
     clear hd hdn
     gi_wp2
     go_roundw
     case rel => exact ⟨k + 1, by omega, by go_num, hJs1, hB1⟩
     case measure => simp [intOf]; omega
  ·obtain rfl : k = zs.length := by omega
   rw [List.take_length] at hJs
   gi_wp2
   go_end0
   exact ⟨⟨_, rfl⟩, .inl ⟨_, rfl, hJs⟩⟩

theorem set_in (F : Fence) (n : Nat) (h31 : F.fn 79) (hro : F.round = none) (a : Option Addr) (len cap : Nat) (w : World) :
  CallsIn F n Try.prog 79 #[.slice a len cap] w fun e w' => e = .returned (.func (.func 86) #[] #[.pointer (some ⟨w.heap.size, 0, none⟩)]) ∧ w' = w.alloc (.cells #[.slice a len cap] 35) := by
 refine callsIn_of_wp Try.func79 rfl h31 ?_ hro
 simp only [Try.ntmps79, List.size_toArray, List.length_cons, List.length_nil, Nat.reduceAdd, Nat.reduceSub, Array.replicate_succ, Array.replicate_zero, List.push_toArray, List.append_toArray, List.nil_append, List.cons_append]
 gi_wp2
 go_ret
 exact ⟨rfl, rfl⟩

theorem set_stops (F : Fence) (n : Nat) (h34 : F.fn 86) (h35 : F.fn 87) (hro : F.round = none) (hn : 1 ≤ n) (Bs n₀ : Nat) (w0 : World) (hn0 : w0.heap.size ≤ n₀) (A : Option Addr) (c : Nat) (zs : List Int) (hC : Kd.C (Kd.int .u8) w0 A zs.length zs) (hf : Fine zs) (w : World) (hw0 : Below n₀ w0 w) (hn1 : n₀ ≤ w.heap.size)
  (hBs : Bs < w.heap.size) (hc : w.cell? ⟨Bs, 0, none⟩ = some (.slice A zs.length c)) :
  SeqStopsK F n Try.prog 86 #[.pointer (some ⟨Bs, 0, none⟩)] (fun x : Int => #[Value.int .i64 x]) (Below n₀) (fun ys => ys = bitsOf zs) (fun pre => pre <+: bitsOf zs) (bitsOf zs).length w := fun l J Jx W hW _ _ hY h0 =>
 set1_in F n h34 h35 hro hn l Bs n₀ w0 hn0 A c zs hC hf J Jx hY W (hw0.trans (hW.mono hn1)) ((hW.cell (p := ⟨Bs, 0, none⟩) hBs).trans hc) h0

set_option maxRecDepth 100000 in
set_option maxHeartbeats 2000000 in
theorem appendSeq_in (F : Fence) (n : Nat) (h36 : F.fn 85) (h34 : F.fn 86) (h35 : F.fn 87) (hro : F.round = none) (hn : 3 ≤ n) (Bs : Nat) (w0 : World) (A : Option Addr) (c : Nat) (zs : List Int) (hC : Kd.C (Kd.int .u8) w0 A zs.length zs) (hf : Fine zs) (w : World) (hw0 : Below w0.heap.size w0 w)
  (hBs : Bs < w.heap.size) (hcell : w.cell? ⟨Bs, 0, none⟩ = some (.slice A zs.length c)) :
  CallsIn F n Try.prog 85 #[.slice none 0 0, .func (.func 86) #[] #[.pointer (some ⟨Bs, 0, none⟩)]] w fun e W' => ∃ v, e = .returned v ∧ W'.ownsRow w.heap.size 3 1 v (bitsOf zs).length ((bitsOf zs).map (Value.int .i64)) ∧ Below w.heap.size w W' := by
 have h1 : 1 ≤ n := by omega
 have hlen := bitsOf_len zs
 have hlen2 := hf.2
 obtain ⟨i0, hi, hz0, hz1, hz2⟩ := info_parts info3
 refine callsIn_of_wp_marks Try.func85 rfl h36 ?_ hro
 simp only [Try.ntmps85, List.size_toArray, List.length_cons, List.length_nil, Nat.reduceAdd, Nat.reduceSub, Array.replicate_succ, Array.replicate_zero, List.push_toArray, List.append_toArray, List.nil_append, List.cons_append]
 gi_wp2
 have bO := Boxed.new w 40 (.slice none 0 0)
 have hB0 : Below w.heap.size w (w.alloc (.cells #[.slice none 0 0] 40)) := (Below.refl _ w).alloc (Nat.le_refl _) _
 refine wpIn_rangeFunc_ownG hro h1 (gf := 86) (lb := #[.pointer (some ⟨Bs, 0, none⟩)]) rfl h34 (enters_of Try.func86 (by kernel_rfl) rfl)
  (set_stops F (n - 1) h34 h35 hro (by omega) Bs w0.heap.size w0 (Nat.le_refl _) A c zs hC hf _ (hw0.trans (hB0.mono hw0.size)) (by have := hw0.size; simp; omega) (by simp; omega) ((hB0.cell (p := ⟨Bs, 0, none⟩) hBs).trans hcell)) belowK_t (belowK_b (by have := hw0.size; simp; omega)) (Below.refl _ _) (fun _ => rfl)
  (fun (pre : List Int) W => (∃ v, Boxed W w.heap.size 40 v ∧ W.ownsRow w.heap.size 3 1 v pre.length (pre.map (Value.int .i64)) ∧ True) ∧ Below w.heap.size w W)
  (fun _ (_ : List Int) _ => False)
  (OwnFrom.and (Own.from (holdsRow_own w.heap.size w.heap.size 40 3 1 (fun (pre : List Int) => pre.length) (fun (pre : List Int) => pre.map (Value.int .i64)) (fun (_ : List Int) _ => True)) _) (ownFrom_below (Nat.le_refl _) (by simp)))
  (fun _ _ _ _ _ hs _ _ => hs)
  ⟨⟨_, bO, World.ownsRow_nil _ _ _ _, trivial⟩, hB0⟩
  (fun x => { tmps := #[.slice none 0 0, .func (.func 86) #[] #[.pointer (some ⟨Bs, 0, none⟩)], .pointer (some ⟨w.heap.size, 0, none⟩), undef, .slice none 0 0, .int .i64 x, .func (.func 86) #[] #[.pointer (some ⟨Bs, 0, none⟩)], .int .i64 x, undef, undef, undef, undef, undef], defers := [] }) ?assign ?body ?done ?stop
 case assign =>
  intro l x W K hK
  gi_wp2
  exact hK
 case body =>
  rintro l pre x W ⟨⟨v, hv, hrow, -⟩, hB⟩ hlt
  have hc := hv.cell
  gi_wp2_with (gi_at_builtin; refine wpListIn_append_own _ rfl _ _ 40 rfl w.heap.size 3 i0 (.int .i64 0) 1 8 Try.underlying40 hi hz0 hz1 hz2 rfl (by decide) _ _ _ rfl (hrow.alloc _) ⟨W.heap.size, 0, none⟩ 1 1 [.int .i64 x] rfl rfl (cell_one_new _ _ _) (by simp [Value.oneCell']) (by unfold maxLen; omega) (by omega) (by have := hB.size; simp; omega) ?_; intro v' w1 hown' hgrow _; obtain ⟨g', cap', rfl⟩ := ownsRow_succ hown'; obtain ⟨hv1, hv2, hr2, hk2, hb2⟩ := hv.appended (by decide) hrow hB.size (Nat.le_refl _) hown' hgrow; have hc1 := hv1.cell; have hf1 := hv1.frozen)
  exact ⟨hk2.from _, hb2.mono (by exact hw0.size), ⟨_, hv2, by simpa using hr2, trivial⟩, hB.trans hb2⟩
 case done =>
  rintro D ys W hD rfl ⟨⟨v, hv, hrow, -⟩, hB⟩ hK
  have hc := hv.cell
  gi_wp2
  refine ⟨by simp, .inl ⟨_, _, rfl, run_takeDeferred hK, ?_⟩⟩
  exact ⟨_, results_tmp rfl _ _ _, v, rfl, ownsRow_putObj hrow _ hK rfl, hB.trans (belowK_b (w := w) (Nat.le_refl _) W D _ _ (by simp at hD; omega) hK rfl rfl)⟩
 case stop =>
  rintro D c pre W _ _ h _
  exact h.elim

set_option maxRecDepth 100000 in
set_option maxHeartbeats 1000000 in
theorem collect_in (F : Fence) (n : Nat) (h33 : F.fn 78) (h36 : F.fn 85) (h34 : F.fn 86) (h35 : F.fn 87) (hro : F.round = none) (hn : 4 ≤ n) (Bs : Nat) (w0 : World) (A : Option Addr) (c : Nat) (zs : List Int) (hC : Kd.C (Kd.int .u8) w0 A zs.length zs) (hf : Fine zs) (w : World) (hw0 : Below w0.heap.size w0 w)
  (hBs : Bs < w.heap.size) (hcell : w.cell? ⟨Bs, 0, none⟩ = some (.slice A zs.length c)) :
  CallsIn F n Try.prog 78 #[.func (.func 86) #[] #[.pointer (some ⟨Bs, 0, none⟩)]] w fun e W' => ∃ v, e = .returned v ∧ W'.ownsRow w.heap.size 3 1 v (bitsOf zs).length ((bitsOf zs).map (Value.int .i64)) ∧ Below w.heap.size w W' := by
 have h1 : 1 ≤ n := by omega
 refine callsIn_of_wp Try.func78 rfl h33 ?_ hro
 simp only [Try.ntmps78, List.size_toArray, List.length_cons, List.length_nil, Nat.reduceAdd, Nat.reduceSub, Array.replicate_succ, Array.replicate_zero, List.push_toArray, List.append_toArray, List.nil_append, List.cons_append]
 gi_wp2_with (gi_at_call 85; refine (appendSeq_in F (n - 1) h36 h34 h35 hro (by omega) Bs w0 A c zs hC hf _ hw0 hBs hcell).mono ?_; rintro e w' ⟨v, rfl, hr, hb⟩)
 go_ret
 exact ⟨v, rfl, hr, hb⟩

set_option maxRecDepth 100000 in
set_option maxHeartbeats 1000000 in
theorem list_in (F : Fence) (n : Nat) (h23 : F.fn 65) (h31 : F.fn 79) (h33 : F.fn 78) (h36 : F.fn 85) (h34 : F.fn 86) (h35 : F.fn 87) (hro : F.round = none) (hn : 5 ≤ n) (w : World) (A : Option Addr) (c : Nat) (zs : List Int) (hC : Kd.C (Kd.int .u8) w A zs.length zs) (hf : Fine zs) :
  CallsIn F n Try.prog 65 #[.slice A zs.length c] w fun e W' => ∃ v, e = .returned v ∧ W'.ownsRow w.heap.size 3 1 v (bitsOf zs).length ((bitsOf zs).map (Value.int .i64)) ∧ Below w.heap.size w W' := by
 have bN := Boxed.new w 35 (.slice A zs.length c)
 have hB0 : Below w.heap.size w (w.alloc (.cells #[.slice A zs.length c] 35)) := (Below.refl _ w).alloc (Nat.le_refl _) _
 have hcl := bN.cell
 clear bN
 have h1 : 1 ≤ n := by omega
 refine callsIn_of_wp Try.func65 rfl h23 ?_ hro
 simp only [Try.ntmps65, List.size_toArray, List.length_cons, List.length_nil, Nat.reduceAdd, Nat.reduceSub, Array.replicate_succ, Array.replicate_zero, List.push_toArray, List.append_toArray, List.nil_append, List.cons_append]
 gi_wp2_with (first | (gi_at_call 79; refine (set_in F _ h31 hro _ _ _ _).mono ?_; rintro e w' ⟨rfl, rfl⟩) | (gi_at_call 78; refine (collect_in F (n - 1) h33 h36 h34 h35 hro (by omega) w.heap.size w A c zs hC hf _ hB0 (by simp) hcl).mono ?_; rintro e w' ⟨v, rfl, hr, hb⟩))
 go_ret
 exact ⟨v, rfl, own_weaken hr (by simp), hB0.trans (hb.mono (by simp))⟩

def bitset_List.f (l0 : List Int) : Option (List Int) := if Fine l0 then some (bitsOf l0) else none
theorem bitset_List.calls (A0 : Option Addr) (c0 : Nat) (l0 : List Int) (r : List Int) (w : World) (hr0 : Kd.C (Kd.int .u8) w A0 l0.length l0) (hc0 : l0.length ≤ c0) (h : bitset_List.f l0 = some r) :
  Calls Try.prog 65 #[.slice A0 l0.length c0] w fun e w' => ∃ v0_ : Value, e = .returned (v0_) ∧ Kd.R (Kd.int .i64) 3 w' w.heap.size (fun _ => True) v0_ r ∧ Below w.heap.size w w' := by
 unfold bitset_List.f at h
 by_cases hf : Fine l0
 ·rw [if_pos hf] at h
  obtain rfl := Option.some.inj h
  refine ((callsIn_wide (n := 5)).1 (list_in _ 5 trivial trivial trivial trivial trivial trivial rfl (by omega) w A0 c0 l0 hr0 hf)).mono ?_
  rintro e w' ⟨v, rfl, hr, hb⟩
  exact ⟨v, rfl, Kd.R_of_own hr (fun _ _ => trivial), hb⟩
 ·rw [if_neg hf] at h
  exact absurd h (by simp)

end Go.Proofs.Ytehjmmedghcndaa.PG
