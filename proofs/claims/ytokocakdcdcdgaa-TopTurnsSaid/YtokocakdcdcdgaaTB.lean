import Derived.Test.YtokocakdcdcdgaaTA
import Derived.RangeFuncNested
import Derived.RangeFuncBound
import Derived.RangeFuncCalls
import Derived.RangeFuncLeaves
import Derived.RangeFuncBox
import Derived.Shelf.Abstract
import Derived.Shelf.RegionOpen
import Derived.WalkKit
import Derived.WalkSpells
import Derived.Lib.Hide
import Derived.OwnWalkIn
import Derived.TacticsInMore
import Derived.LoopNIn
import Derived.LoopIn
import Derived.Maps.AppendAt
import Derived.Sort.QuietIn
import Derived.BigRegionIn
/-! What is marked, as an iterator; Collect. -/
namespace Go.Proofs.Ytokocakdcdcdgaa.PG
open Go.RowKit Go.Proofs.YtokocakdcdcdgaaW.PrintWords Go.Proofs.YtokocakdcdcdgaaW.PrintLast Go.Proofs.YtokocakdcdcdgaaW.PrintMore
open Go.Shelf
attribute [local go_sem] Oper.semAt_some

/-- Which are marked, from k on. -/
def onesF : Nat → List Bool → List Int
  | _, [] => []
  | k, b :: t => if b = true then (k : Int) :: onesF (k + 1) t else onesF (k + 1) t
def onesOf (m : List Bool) : List Int := onesF 0 m
theorem onesF_len : ∀ (m : List Bool) (k : Nat), (onesF k m).length ≤ m.length
  | [], k => Nat.le_refl _
  | b :: t, k => by
    have := onesF_len t (k + 1)
    unfold onesF
    split <;> simp <;> omega
theorem onesOf_len (m : List Bool) : (onesOf m).length ≤ m.length := onesF_len m 0
theorem onesF_append : ∀ (m n : List Bool) (k : Nat), onesF k (m ++ n) = onesF k m ++ onesF (k + m.length) n
  | [], n, k => rfl
  | b :: t, n, k => by
    have ih := onesF_append t n (k + 1)
    show (if b = true then (k : Int) :: onesF (k + 1) (t ++ n) else onesF (k + 1) (t ++ n)) = (if b = true then (k : Int) :: onesF (k + 1) t else onesF (k + 1) t) ++ onesF (k + (t.length + 1)) n
    rw [ih, show k + 1 + t.length = k + (t.length + 1) by omega]
    by_cases h : b = true
    · rw [if_pos h, if_pos h, List.cons_append]
    · rw [if_neg h, if_neg h]
theorem ones_take_succ (m : List Bool) (k : Nat) (h : k < m.length) : onesOf (m.take (k + 1)) = onesOf (m.take k) ++ (if m.getD k false = true then [(k : Int)] else []) := by
  unfold onesOf
  rw [List.take_succ_eq_append_getElem h, onesF_append, List.length_take, Nat.min_eq_left (by omega), Nat.zero_add, show m.getD k false = m[k] by simp [List.getD_eq_getElem?_getD, h]]
  rfl
theorem ones_pre (m : List Bool) (k : Nat) : onesOf (m.take k) <+: onesOf m := by
  conv => rhs; rw [← List.take_append_drop k m]
  unfold onesOf
  rw [onesF_append]
  exact List.prefix_append _ _
set_option maxRecDepth 100000 in
set_option maxHeartbeats 2000000 in
theorem those1_in (F : Fence) (n : Nat) (h43 : F.fn 43) (hro : F.round = none) (hn : 1 ≤ n) (l Bs n₀ : Nat) (w0 : World) (hn0 : w0.heap.size ≤ n₀) (A : Option Addr) (c : Nat) (zs : List Bool) (hC : Kd.C Kd.bool w0 A zs.length zs) (hf : zs.length ≤ 100) (J Jx : List Int → World → Prop)
    (hY : ∀ pre x W, x ∈ onesOf zs → J pre W → pre.length < (onesOf zs).length → YieldAt F (n - 1) Try.prog l #[.int .i64 x] W fun e W' =>
      (e = .returned (.bool true) ∧ J (pre ++ [x]) W' ∧ Below n₀ W W') ∨ (e = .returned (.bool false) ∧ Jx (pre ++ [x]) W'))
    (W : World) (hW : Below n₀ w0 W) (hBs : W.cell? ⟨Bs, 0, none⟩ = some (.slice A zs.length c)) (h0 : J [] W) :
    CallsIn F n Try.prog 43 #[.func (.yield l) #[] #[], .pointer (some ⟨Bs, 0, none⟩)] W fun e W' => (∃ v, e = .returned v) ∧
      ((∃ ys, ys = onesOf zs ∧ J ys W') ∨ (∃ pre, pre <+: onesOf zs ∧ Jx pre W')) := by
  refine callsIn_of_wp Try.func43 rfl h43 ?_ hro
  simp only [Try.ntmps43, List.size_toArray, List.length_cons, List.length_nil, Nat.reduceAdd, Nat.reduceSub, Array.replicate_succ, Array.replicate_zero, List.push_toArray, List.append_toArray, List.nil_append, List.cons_append]
  gi_wp2
  gi_loopw [3, 4, 7] (fun _ _ i wr => ∃ k : Nat, k ≤ zs.length ∧ i = .int .i64 k ∧ J (onesOf (zs.take k)) wr ∧ Below n₀ w0 wr)
    (fun _ _ i _ => zs.length - (intOf i).toNat)
  case atStart => exact ⟨0, Nat.zero_le _, rfl, h0, hW⟩
  case round =>
    obtain ⟨k, hk, rfl, hJs, hB⟩ := hrel
    by_cases hlt : k < zs.length
    · have hts := ones_take_succ zs k hlt
      have hpre := ones_pre zs (k + 1)
      have hCk : ∃ ad, A = some ad ∧ wr.cell? (ad.add k) = some (.bool (zs.getD k false)) := by
        obtain ⟨ad, e, hh⟩ := Kd.at_bool hC (k : Int) (by omega) (by omega)
        exact ⟨ad, e, by have := pw_cell_below (hB.mono hn0) hh; simpa [rdOf] using this⟩
      obtain ⟨ad, rfl, hcell⟩ := hCk
      cases hz : zs.getD k false with
      | true =>
        rw [hz] at hcell hts
        rw [if_pos rfl] at hts
        rw [hts] at hpre
        have hlt2 : (onesOf (zs.take k)).length < (onesOf zs).length := by have := hpre.length_le; simp at this; omega
        have hmm : (k : Int) ∈ onesOf zs := hpre.subset (by simp)
        obtain ⟨fn, tmps, assign, body, hy, hR⟩ := hY _ (k : Int) wr hmm hJs hlt2
        clear hmm
        have Hts := Lib.hid hts
        have Hpre := Lib.hid hpre
        clear hts hpre hz
        gi_wp2
        refine hR.mono ?_
        rintro e W3 (⟨rfl, hJ3, hk3⟩ | ⟨rfl, hJx3⟩)
        · gi_wp2
          go_roundw
          case rel => exact ⟨k + 1, by omega, by go_num, by rw [Hts.out]; exact hJ3, hB.trans hk3⟩
          case measure => simp [intOf]; omega
        · gi_wp2
          refine bodyPost_ret (results_none rfl _ _ _) rfl ?_
          exact ⟨⟨_, rfl⟩, .inr ⟨_, Hpre.out, hJx3⟩⟩
      | false =>
        rw [hz] at hcell hts
        rw [if_neg (by decide), List.append_nil] at hts
        rw [← hts] at hJs
        clear hts hpre hz
        gi_wp2
        refine ⟨fun _ h => (by cases h), ?_⟩
        gi_wp2
        go_roundw
        case rel => exact ⟨k + 1, by omega, by go_num, hJs, hB⟩
        case measure => simp [intOf]; omega
    · obtain rfl : k = zs.length := by omega
      rw [List.take_length] at hJs
      gi_wp2
      go_end0
      exact ⟨⟨_, rfl⟩, .inl ⟨_, rfl, hJs⟩⟩
theorem those_in (F : Fence) (n : Nat) (h30 : F.fn 30) (hro : F.round = none) (a : Option Addr) (len cap : Nat) (w : World) :
    CallsIn F n Try.prog 30 #[.slice a len cap] w fun e w' => e = .returned (.func (.func 43) #[] #[.pointer (some ⟨w.heap.size, 0, none⟩)]) ∧ w' = w.alloc (.cells #[.slice a len cap] 59) := by
  refine callsIn_of_wp Try.func30 rfl h30 ?_ hro
  simp only [Try.ntmps30, List.size_toArray, List.length_cons, List.length_nil, Nat.reduceAdd, Nat.reduceSub, Array.replicate_succ, Array.replicate_zero, List.push_toArray, List.append_toArray, List.nil_append, List.cons_append]
  gi_wp2
  go_ret
  exact ⟨rfl, rfl⟩
theorem those_stops (F : Fence) (n : Nat) (h43 : F.fn 43) (hro : F.round = none) (hn : 1 ≤ n) (Bs n₀ : Nat) (w0 : World) (hn0 : w0.heap.size ≤ n₀) (A : Option Addr) (c : Nat) (zs : List Bool) (hC : Kd.C Kd.bool w0 A zs.length zs) (hf : zs.length ≤ 100) (w : World) (hw0 : Below n₀ w0 w) (hn1 : n₀ ≤ w.heap.size)
    (hBs : Bs < w.heap.size) (hc : w.cell? ⟨Bs, 0, none⟩ = some (.slice A zs.length c)) :
    SeqStopsK F n Try.prog 43 #[.pointer (some ⟨Bs, 0, none⟩)] (fun x : Int => #[Value.int .i64 x]) (Below n₀) (fun ys => ys = onesOf zs) (fun pre => pre <+: onesOf zs) (onesOf zs).length w := fun l J Jx W hW _ _ hY h0 =>
  those1_in F n h43 hro hn l Bs n₀ w0 hn0 A c zs hC hf J Jx (fun pre x W _ => hY pre x W) W (hw0.trans (hW.mono hn1)) ((hW.cell (p := ⟨Bs, 0, none⟩) hBs).trans hc) h0
/-- The same, where each that comes is known to be marked. -/
theorem those_stopsM (F : Fence) (n : Nat) (h43 : F.fn 43) (hro : F.round = none) (hn : 1 ≤ n) (Bs n₀ : Nat) (w0 : World) (hn0 : w0.heap.size ≤ n₀) (A : Option Addr) (c : Nat) (zs : List Bool) (hC : Kd.C Kd.bool w0 A zs.length zs) (hf : zs.length ≤ 100) (w : World) (hw0 : Below n₀ w0 w) (hn1 : n₀ ≤ w.heap.size)
    (hBs : Bs < w.heap.size) (hc : w.cell? ⟨Bs, 0, none⟩ = some (.slice A zs.length c)) :
    SeqStopsK F n Try.prog 43 #[.pointer (some ⟨Bs, 0, none⟩)] (fun x : { x : Int // x ∈ onesOf zs } => #[Value.int .i64 x.1]) (Below n₀) (fun ys => ys.map (·.1) = onesOf zs) (fun pre => pre.map (·.1) <+: onesOf zs) (onesOf zs).length w := fun l J Jx W hW _ _ hY h0 => by
  refine (those1_in F n h43 hro hn l Bs n₀ w0 hn0 A c zs hC hf (fun xs W => ∃ ys : List { x : Int // x ∈ onesOf zs }, ys.map (·.1) = xs ∧ J ys W) (fun xs W => ∃ ys : List { x : Int // x ∈ onesOf zs }, ys.map (·.1) = xs ∧ Jx ys W) ?_ W (hw0.trans (hW.mono hn1)) ((hW.cell (p := ⟨Bs, 0, none⟩) hBs).trans hc) ⟨[], rfl, h0⟩).mono ?_
  · rintro pre x W hx ⟨ys, rfl, hJ⟩ hlt
    rw [List.length_map] at hlt
    obtain ⟨fn, tmps, assign, body, hy, hR⟩ := hY ys ⟨x, hx⟩ W hJ hlt
    refine ⟨fn, tmps, assign, body, hy, hR.mono ?_⟩
    rintro e W' (⟨rfl, hJ', hb⟩ | ⟨rfl, hJ'⟩)
    · exact .inl ⟨rfl, ⟨ys ++ [⟨x, hx⟩], by simp, hJ'⟩, hb⟩
    · exact .inr ⟨rfl, ⟨ys ++ [⟨x, hx⟩], by simp, hJ'⟩⟩
  · rintro e W' ⟨hv, ⟨xs, rfl, ys, hys, hJ⟩ | ⟨pre, hpre, ys, rfl, hJ⟩⟩
    · exact ⟨hv, .inl ⟨ys, hys, hJ⟩⟩
    · exact ⟨hv, .inr ⟨ys, hpre, hJ⟩⟩
set_option maxRecDepth 100000 in
set_option maxHeartbeats 2000000 in
theorem appendSeq_in (F : Fence) (n : Nat) (h42 : F.fn 42) (h43 : F.fn 43) (hro : F.round = none) (hn : 3 ≤ n) (Bs : Nat) (w0 : World) (A : Option Addr) (c : Nat) (zs : List Bool) (hC : Kd.C Kd.bool w0 A zs.length zs) (hf : zs.length ≤ 100) (w : World) (hw0 : Below w0.heap.size w0 w)
    (hBs : Bs < w.heap.size) (hcell : w.cell? ⟨Bs, 0, none⟩ = some (.slice A zs.length c)) :
    CallsIn F n Try.prog 42 #[.slice none 0 0, .func (.func 43) #[] #[.pointer (some ⟨Bs, 0, none⟩)]] w fun e W' => ∃ v, e = .returned v ∧ W'.ownsRow w.heap.size 3 1 v (onesOf zs).length ((onesOf zs).map (Value.int .i64)) ∧ Below w.heap.size w W' := by
  have h1 : 1 ≤ n := by omega
  have hlen := onesOf_len zs
  obtain ⟨i0, hi, hz0, hz1, hz2⟩ := info_parts info3
  refine callsIn_of_wp_marks Try.func42 rfl h42 ?_ hro
  simp only [Try.ntmps42, List.size_toArray, List.length_cons, List.length_nil, Nat.reduceAdd, Nat.reduceSub, Array.replicate_succ, Array.replicate_zero, List.push_toArray, List.append_toArray, List.nil_append, List.cons_append]
  gi_wp2
  have bO := Boxed.new w 28 (.slice none 0 0)
  have hB0 : Below w.heap.size w (w.alloc (.cells #[.slice none 0 0] 28)) := (Below.refl _ w).alloc (Nat.le_refl _) _
  refine wpIn_rangeFunc_ownG hro h1 (gf := 43) (lb := #[.pointer (some ⟨Bs, 0, none⟩)]) rfl h43 (enters_of Try.func43 (by kernel_rfl) rfl)
    (those_stops F (n - 1) h43 hro (by omega) Bs w0.heap.size w0 (Nat.le_refl _) A c zs hC hf _ (hw0.trans (hB0.mono hw0.size)) (by have := hw0.size; simp; omega) (by simp; omega) ((hB0.cell (p := ⟨Bs, 0, none⟩) hBs).trans hcell)) belowK_t (belowK_b (by have := hw0.size; simp; omega)) (Below.refl _ _) (fun _ => rfl)
    (fun (pre : List Int) W => (∃ v, Boxed W w.heap.size 28 v ∧ W.ownsRow w.heap.size 3 1 v pre.length (pre.map (Value.int .i64)) ∧ True) ∧ Below w.heap.size w W)
    (fun _ (_ : List Int) _ => False)
    (OwnFrom.and (Own.from (holdsRow_own w.heap.size w.heap.size 28 3 1 (fun (pre : List Int) => pre.length) (fun (pre : List Int) => pre.map (Value.int .i64)) (fun (_ : List Int) _ => True)) _) (ownFrom_below (Nat.le_refl _) (by simp)))
    (fun _ _ _ _ _ hs _ _ => hs)
    ⟨⟨_, bO, World.ownsRow_nil _ _ _ _, trivial⟩, hB0⟩
    (fun x => { tmps := #[.slice none 0 0, .func (.func 43) #[] #[.pointer (some ⟨Bs, 0, none⟩)], .pointer (some ⟨w.heap.size, 0, none⟩), undef, .slice none 0 0, .int .i64 x, .func (.func 43) #[] #[.pointer (some ⟨Bs, 0, none⟩)], .int .i64 x, undef, undef, undef, undef, undef], defers := [] }) ?assign ?body ?done ?stop
  case assign =>
    intro l x W K hK
    gi_wp2
    exact hK
  case body =>
    rintro l pre x W ⟨⟨v, hv, hrow, -⟩, hB⟩ hlt
    have hc := hv.cell
    gi_wp2_with (gi_at_builtin; refine wpListIn_append_own _ rfl _ _ 28 rfl w.heap.size 3 i0 (.int .i64 0) 1 8 Try.underlying28 hi hz0 hz1 hz2 rfl (by decide) _ _ _ rfl (hrow.alloc _) ⟨W.heap.size, 0, none⟩ 1 1 [.int .i64 x] rfl rfl (cell_one_new _ _ _) (by simp [Value.oneCell']) (by unfold maxLen; omega) (by omega) (by have := hB.size; simp; omega) ?_; intro v' w1 hown' hgrow _; obtain ⟨g', cap', rfl⟩ := ownsRow_succ hown'; obtain ⟨hv1, hv2, hr2, hk2, hb2⟩ := hv.appended (by decide) hrow hB.size (Nat.le_refl _) hown' hgrow; have hc1 := hv1.cell; have hf1 := hv1.frozen)
    exact ⟨hk2.from _, hb2.mono (by exact hw0.size), ⟨_, hv2, by simpa using hr2, trivial⟩, hB.trans hb2⟩
  case done =>
    rintro D ys W hD rfl ⟨⟨v, hv, hrow, -⟩, hB⟩ hK
    have hc := hv.cell
    gi_wp2
    refine ⟨by simp, .inl ⟨_, _, rfl, run_takeDeferred hK, ?_⟩⟩
    exact ⟨_, results_tmp rfl _ _ _, v, rfl, ownsRow_putObj hrow _ hK rfl, hB.trans (belowK_b (w := w) (Nat.le_refl _) W D _ _ (by simp at hD; omega) hK rfl rfl)⟩
  case stop =>
    rintro D c pre W _ _ h _
    exact h.elim
set_option maxRecDepth 100000 in
set_option maxHeartbeats 1000000 in
theorem collect_in (F : Fence) (n : Nat) (h29 : F.fn 29) (h42 : F.fn 42) (h43 : F.fn 43) (hro : F.round = none) (hn : 4 ≤ n) (Bs : Nat) (w0 : World) (A : Option Addr) (c : Nat) (zs : List Bool) (hC : Kd.C Kd.bool w0 A zs.length zs) (hf : zs.length ≤ 100) (w : World) (hw0 : Below w0.heap.size w0 w)
    (hBs : Bs < w.heap.size) (hcell : w.cell? ⟨Bs, 0, none⟩ = some (.slice A zs.length c)) :
    CallsIn F n Try.prog 29 #[.func (.func 43) #[] #[.pointer (some ⟨Bs, 0, none⟩)]] w fun e W' => ∃ v, e = .returned v ∧ W'.ownsRow w.heap.size 3 1 v (onesOf zs).length ((onesOf zs).map (Value.int .i64)) ∧ Below w.heap.size w W' := by
  have h1 : 1 ≤ n := by omega
  refine callsIn_of_wp Try.func29 rfl h29 ?_ hro
  simp only [Try.ntmps29, List.size_toArray, List.length_cons, List.length_nil, Nat.reduceAdd, Nat.reduceSub, Array.replicate_succ, Array.replicate_zero, List.push_toArray, List.append_toArray, List.nil_append, List.cons_append]
  gi_wp2_with (gi_at_call 42; refine (appendSeq_in F (n - 1) h42 h43 hro (by omega) Bs w0 A c zs hC hf _ hw0 hBs hcell).mono ?_; rintro e w' ⟨v, rfl, hr, hb⟩)
  go_ret
  exact ⟨v, rfl, hr, hb⟩
/-- Those, as a value. -/
theorem those_calls (a : Option Addr) (len cap : Nat) (w : World) : Calls Try.prog 30 #[.slice a len cap] w fun e w' => e = .returned (.func (.func 43) #[] #[.pointer (some ⟨w.heap.size, 0, none⟩)]) ∧ w' = w.alloc (.cells #[.slice a len cap] 59) :=
  (callsIn_wide (n := 5)).1 (those_in _ 5 trivial rfl a len cap w)
/-- Collect, of those. -/
theorem collect_calls (Bs : Nat) (A : Option Addr) (c : Nat) (zs : List Bool) (w : World) (hC : Kd.C Kd.bool w A zs.length zs) (hf : zs.length ≤ 100) (hBs : Bs < w.heap.size) (hcell : w.cell? ⟨Bs, 0, none⟩ = some (.slice A zs.length c)) :
    Calls Try.prog 29 #[.func (.func 43) #[] #[.pointer (some ⟨Bs, 0, none⟩)]] w fun e w' => (∃ v, e = .returned v ∧ Kd.R (Kd.int .i64) 3 w' w.heap.size (fun _ => True) v (onesOf zs)) ∧ Below w.heap.size w w' := by
  refine ((callsIn_wide (n := 5)).1 (collect_in _ 5 trivial trivial trivial rfl (by omega) Bs w A c zs hC hf w (Below.refl _ _) hBs hcell)).mono ?_
  rintro e w' ⟨v, rfl, hr, hb⟩
  exact ⟨⟨v, rfl, Kd.R_of_own hr (fun _ _ => trivial)⟩, hb⟩
end Go.Proofs.Ytokocakdcdcdgaa.PG
