import Derived.Test.YthembklejaabiaaExt1
import Derived.Test.YthembklejaabiaaMgA
namespace Go.Proofs.Ythembklejaabiaa.PG
open Go.RowKit Go.Proofs.YthembklejaabiaaW.PrintWords Go.Proofs.YthembklejaabiaaW.PrintLast Go.Proofs.YthembklejaabiaaW.PrintMore
open Go.Shelf Go.Proofs.Ythembklejaabiaa.PL

attribute [local go_sem] Oper.semAt_some



theorem set_in (F : Fence) (n : Nat) (h31 : F.fn 31) (hro : F.round = none) (a : Option Addr) (len cap : Nat) (w : World) :
    CallsIn F n Try.prog 31 #[.slice a len cap] w fun e w' => e = .returned (.func (.func 44) #[] #[.pointer (some ⟨w.heap.size, 0, none⟩)]) ∧ w' = w.alloc (.cells #[.slice a len cap] 34) := by
  refine callsIn_of_wp Try.func31 rfl h31 ?_ hro
  simp only [Try.ntmps31, List.size_toArray, List.length_cons, List.length_nil, Nat.reduceAdd, Nat.reduceSub, Array.replicate_succ, Array.replicate_zero, List.push_toArray, List.append_toArray, List.nil_append, List.cons_append]
  gi_wp2
  go_ret
  exact ⟨rfl, rfl⟩

theorem set_stops (F : Fence) (n : Nat) (h34 : F.fn 44) (h35 : F.fn 45) (hro : F.round = none) (hn : 1 ≤ n) (Bs n₀ : Nat) (w0 : World) (hn0 : w0.heap.size ≤ n₀) (A : Option Addr) (c : Nat) (zs : List Int) (hC : Kd.C (Kd.int .u8) w0 A zs.length zs) (hf : Fine zs) (w : World) (hw0 : Below n₀ w0 w) (hn1 : n₀ ≤ w.heap.size)
    (hBs : Bs < w.heap.size) (hc : w.cell? ⟨Bs, 0, none⟩ = some (.slice A zs.length c)) :
    SeqStopsK F n Try.prog 44 #[.pointer (some ⟨Bs, 0, none⟩)] (fun x : Int => #[Value.int .i64 x]) (Below n₀) (fun ys => ys = bitsOf zs) (fun pre => pre <+: bitsOf zs) (bitsOf zs).length w := fun l J Jx W hW _ _ hY h0 =>
  set1_in F n h34 h35 hro hn l Bs n₀ w0 hn0 A c zs hC hf J Jx hY W (hw0.trans (hW.mono hn1)) ((hW.cell (p := ⟨Bs, 0, none⟩) hBs).trans hc) h0

set_option maxRecDepth 100000 in
set_option maxHeartbeats 2000000 in
theorem appendSeq_in (F : Fence) (n : Nat) (h36 : F.fn 48) (h34 : F.fn 44) (h35 : F.fn 45) (hro : F.round = none) (hn : 3 ≤ n) (Bs : Nat) (w0 : World) (A : Option Addr) (c : Nat) (zs : List Int) (hC : Kd.C (Kd.int .u8) w0 A zs.length zs) (hf : Fine zs) (w : World) (hw0 : Below w0.heap.size w0 w)
    (hBs : Bs < w.heap.size) (hcell : w.cell? ⟨Bs, 0, none⟩ = some (.slice A zs.length c)) :
    CallsIn F n Try.prog 48 #[.slice none 0 0, .func (.func 44) #[] #[.pointer (some ⟨Bs, 0, none⟩)]] w fun e W' => ∃ v, e = .returned v ∧ W'.ownsRow w.heap.size 3 1 v (bitsOf zs).length ((bitsOf zs).map (Value.int .i64)) ∧ Below w.heap.size w W' := by
  have h1 : 1 ≤ n := by omega
  have hlen := bitsOf_len zs
  have hlen2 := hf.2
  obtain ⟨i0, hi, hz0, hz1, hz2⟩ := info_parts info3
  refine callsIn_of_wp_marks Try.func48 rfl h36 ?_ hro
  simp only [Try.ntmps48, List.size_toArray, List.length_cons, List.length_nil, Nat.reduceAdd, Nat.reduceSub, Array.replicate_succ, Array.replicate_zero, List.push_toArray, List.append_toArray, List.nil_append, List.cons_append]
  gi_wp2
  have bO := Boxed.new w 39 (.slice none 0 0)
  have hB0 : Below w.heap.size w (w.alloc (.cells #[.slice none 0 0] 39)) := (Below.refl _ w).alloc (Nat.le_refl _) _
  refine wpIn_rangeFunc_ownG hro h1 (gf := 44) (lb := #[.pointer (some ⟨Bs, 0, none⟩)]) rfl h34 (enters_of Try.func44 (by kernel_rfl) rfl)
    (set_stops F (n - 1) h34 h35 hro (by omega) Bs w0.heap.size w0 (Nat.le_refl _) A c zs hC hf _ (hw0.trans (hB0.mono hw0.size)) (by have := hw0.size; simp; omega) (by simp; omega) ((hB0.cell (p := ⟨Bs, 0, none⟩) hBs).trans hcell)) belowK_t (belowK_b (by have := hw0.size; simp; omega)) (Below.refl _ _) (fun _ => rfl)
    (fun (pre : List Int) W => (∃ v, Boxed W w.heap.size 39 v ∧ W.ownsRow w.heap.size 3 1 v pre.length (pre.map (Value.int .i64)) ∧ True) ∧ Below w.heap.size w W)
    (fun _ (_ : List Int) _ => False)
    (OwnFrom.and (Own.from (holdsRow_own w.heap.size w.heap.size 39 3 1 (fun (pre : List Int) => pre.length) (fun (pre : List Int) => pre.map (Value.int .i64)) (fun (_ : List Int) _ => True)) _) (ownFrom_below (Nat.le_refl _) (by simp)))
    (fun _ _ _ _ _ hs _ _ => hs)
    ⟨⟨_, bO, World.ownsRow_nil _ _ _ _, trivial⟩, hB0⟩
    (fun x => { tmps := #[.slice none 0 0, .func (.func 44) #[] #[.pointer (some ⟨Bs, 0, none⟩)], .pointer (some ⟨w.heap.size, 0, none⟩), undef, .slice none 0 0, .int .i64 x, .func (.func 44) #[] #[.pointer (some ⟨Bs, 0, none⟩)], .int .i64 x, undef, undef, undef, undef, undef], defers := [] }) ?assign ?body ?done ?stop
  case assign =>
    intro l x W K hK
    gi_wp2
    exact hK
  case body =>
    rintro l pre x W ⟨⟨v, hv, hrow, -⟩, hB⟩ hlt
    have hc := hv.cell
    gi_wp2_with (gi_at_builtin; refine wpListIn_append_own _ rfl _ _ 39 rfl w.heap.size 3 i0 (.int .i64 0) 1 8 Try.underlying39 hi hz0 hz1 hz2 rfl (by decide) _ _ _ rfl (hrow.alloc _) ⟨W.heap.size, 0, none⟩ 1 1 [.int .i64 x] rfl rfl (cell_one_new _ _ _) (by simp [Value.oneCell']) (by unfold maxLen; omega) (by omega) (by have := hB.size; simp; omega) ?_; intro v' w1 hown' hgrow _; obtain ⟨g', cap', rfl⟩ := ownsRow_succ hown'; obtain ⟨hv1, hv2, hr2, hk2, hb2⟩ := hv.appended (by decide) hrow hB.size (Nat.le_refl _) hown' hgrow; have hc1 := hv1.cell; have hf1 := hv1.frozen)
    exact ⟨hk2.from _, hb2.mono (by exact hw0.size), ⟨_, hv2, by simpa using hr2, trivial⟩, hB.trans hb2⟩
  case done =>
    rintro D ys W hD rfl ⟨⟨v, hv, hrow, -⟩, hB⟩ hK
    have hc := hv.cell
    gi_wp2
    refine ⟨by simp, .inl ⟨_, _, rfl, run_takeDeferred hK, ?_⟩⟩
    exact ⟨_, results_tmp rfl _ _ _, v, rfl, ownsRow_putObj hrow _ hK rfl, hB.trans (belowK_b (w := w) (Nat.le_refl _) W D _ _ (by simp at hD; omega) hK rfl rfl)⟩
  case stop =>
    rintro D c pre W _ _ h _
    exact h.elim
end Go.Proofs.Ythembklejaabiaa.PG
