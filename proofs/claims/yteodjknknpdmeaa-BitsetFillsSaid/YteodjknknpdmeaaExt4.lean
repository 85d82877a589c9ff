import Derived.Test.YteodjknknpdmeaaExt3
namespace Go.Proofs.Yteodjknknpdmeaa.PG
open Go.RowKit Go.Proofs.YteodjknknpdmeaaW.PrintWords Go.Proofs.YteodjknknpdmeaaW.PrintLast Go.Proofs.YteodjknknpdmeaaW.PrintMore
open Go.Shelf

attribute [local go_sem] Oper.semAt_some





theorem and7 (i : Int) (h0 : 0 ≤ i) (h1 : i < 9223372036854775808) : Go.bits .and .i64 i 7 = i % 8 := by
  obtain ⟨n, rfl⟩ := Int.eq_ofNat_of_zero_le h0
  have := Nat.and_two_pow_sub_one_eq_mod n 3
  have h2 : Go.bits .and .i64 (n : Int) ((7 : Nat) : Int) = ((n &&& 7 : Nat) : Int) := by
    have hx : n &&& 7 < 2 ^ 63 := Nat.and_lt_two_pow _ (by omega)
    show IntKind.i64.wrap ((BitVec.ofInt 64 (n : Int) &&& BitVec.ofInt 64 ((7 : Nat) : Int)).toNat : Int) = _
    rw [BitVec.toNat_and]
    have e1 : (BitVec.ofInt 64 (n : Int)).toNat = n := by rw [BitVec.ofInt_natCast, BitVec.toNat_ofNat]; exact Nat.mod_eq_of_lt (by omega)
    rw [e1, show (BitVec.ofInt 64 ((7 : Nat) : Int)).toNat = 7 from rfl, IntKind.wrap_i64]
    omega
  rw [show (7 : Int) = ((7 : Nat) : Int) from rfl, h2]
  have : n &&& 7 = n % 8 := this
  rw [this]
  omega
theorem and7_nonneg (i : Int) : 0 ≤ Go.bits .and .i64 i 7 := by
  show 0 ≤ IntKind.i64.wrap ((BitVec.ofInt 64 i &&& BitVec.ofInt 64 (7 : Int)).toNat : Int)
  rw [BitVec.toNat_and, show (BitVec.ofInt 64 (7 : Int)).toNat = 7 from rfl, IntKind.wrap_i64]
  have : (BitVec.ofInt 64 i).toNat &&& 7 ≤ 7 := Nat.and_le_right
  omega
theorem get_some (l : List Int) (i : Int) : ∃ r, PA.bitset_Get.f l i = some r := by
  unfold PA.bitset_Get.f
  by_cases h0 : i ≥ 0
  · rw [if_pos h0]
    by_cases h : i / 8 < (l.length : Int)
    · rw [if_pos h, if_pos (by omega), if_pos (and7_nonneg i)]
      exact ⟨_, rfl⟩
    · rw [if_neg h]; exact ⟨_, rfl⟩
  · rw [if_neg h0]; exact ⟨_, rfl⟩
/-- A bit is there. -/
def hasBit (l : List Int) (i : Int) : Bool := (PA.bitset_Get.f l i).getD false
theorem get_hasBit (l : List Int) (i : Int) : PA.bitset_Get.f l i = some (hasBit l i) := by
  obtain ⟨r, h⟩ := get_some l i
  rw [hasBit, h]; rfl
theorem bits8_mem (c : Int) : ∀ t ∈ bits8 c, 0 ≤ t ∧ t < 8 := by
  intro t ht
  unfold bits8 at ht
  obtain ⟨j, hj, rfl⟩ := List.mem_map.1 ht
  have := List.mem_range.1 (List.mem_filter.1 hj).1
  constructor
  · exact Int.natCast_nonneg j
  · show (j : Int) < 8
    omega
theorem bitsFrom_mem (l : List Int) : ∀ (k : Nat) t, t ∈ bitsFrom k l → 0 ≤ t ∧ t < 8 * ((k : Int) + l.length) := by
  induction l with
  | nil => intro k t h; simp [bitsFrom] at h
  | cons c cs ih =>
    intro k t h
    simp only [bitsFrom, List.mem_append, List.mem_map] at h
    rcases h with ⟨s, hs, rfl⟩ | h
    · have := bits8_mem c s hs
      simp only [List.length_cons]
      omega
    · have := ih (k + 1) t h
      simp only [List.length_cons]
      omega
theorem get_is (A0 : Option Addr) (c0 : Nat) (l0 : List Int) (a1 : Int) (r : Bool) (w : World) (hr0 : Kd.C (Kd.int .u8) w A0 l0.length l0) (hc0 : l0.length ≤ c0) (h : PA.bitset_Get.f l0 a1 = some r) :
    Calls Try.prog 15 #[.slice A0 l0.length c0, .int .i64 a1] w fun e w' => e = .returned (.bool r) ∧ ∃ n, w.drewN n = w' :=
  (PA.bitset_Get.calls A0 c0 l0 a1 r w hr0 hc0 h).mono fun _ _ ⟨he, hd⟩ => ⟨he, hd.out.imp fun _ e => e.symm⟩
theorem keepsFrom_drewN (B : Nat) (W : World) (n : Nat) : KeepsFrom B W (W.drewN n) := KeepsOthers.from (⟨Nat.le_refl _, fun _ _ h _ => h⟩ : KeepsOthers W (W.drewN n)) B
/-- What has come, but for what b has. -/
def wo (b pre : List Int) : List Int := pre.filter fun i => !hasBit b i
theorem wo_hit (b pre : List Int) {x : Int} (h : hasBit b x = false) : wo b (pre ++ [x]) = wo b pre ++ [x] := by simp [wo, h]
theorem wo_miss (b pre : List Int) {x : Int} (h : hasBit b x = true) : wo b (pre ++ [x]) = wo b pre := by simp [wo, h]

set_option maxRecDepth 100000 in
set_option maxHeartbeats 2000000 in
theorem without_in (w : World) (A : Option Addr) (c : Nat) (zs : List Int) (hC : Kd.C (Kd.int .u8) w A zs.length zs) (hf : Fine zs) (B : Option Addr) (cb : Nat) (bs : List Int) (hD : Kd.C (Kd.int .u8) w B bs.length bs) (hcb : bs.length ≤ cb) :
    CallsIn Fence.wide 5 Try.prog 28 #[.slice A zs.length c, .slice B bs.length cb] w fun e W' => ∃ v, e = .returned v ∧ W'.ownsRow w.heap.size 3 1 v (wo bs (bitsOf zs)).length ((wo bs (bitsOf zs)).map (Value.int .i64)) ∧ Below w.heap.size w W' := by
  have h1 : 1 ≤ 5 := by omega
  have hlen := bitsOf_len zs
  have hlen2 := hf.2
  obtain ⟨i0, hi, hz0, hz1, hz2⟩ := info_parts info3
  obtain ⟨wb, hwb⟩ : ∃ wb, w.alloc (.cells #[.slice B bs.length cb] 22) = wb := ⟨_, rfl⟩
  have bB := Boxed.new w 22 (.slice B bs.length cb)
  rw [hwb] at bB
  have hwB : Below w.heap.size w wb := by rw [← hwb]; exact (Below.refl _ w).alloc (Nat.le_refl _) _
  have hsz : wb.heap.size = w.heap.size + 1 := by rw [← hwb]; simp
  have hcB := bB.cell
  refine callsIn_of_wp_marks Try.func28 rfl trivial ?_ rfl
  simp only [Try.ntmps28, List.size_toArray, List.length_cons, List.length_nil, Nat.reduceAdd, Nat.reduceSub, Array.replicate_succ, Array.replicate_zero, List.push_toArray, List.append_toArray, List.nil_append, List.cons_append]
  gi_wp2_with (refine ⟨trivial, ?_⟩; gi_at_call 31; refine (set_in Fence.wide 4 trivial rfl _ _ _ _).mono ?_; rintro e w' ⟨rfl, rfl⟩)
  have bO := Boxed.new wb 41 (.slice none 0 0)
  have bN := Boxed.new (wb.alloc (.cells #[.slice none 0 0] 41)) 22 (.slice A zs.length c)
  rw [hsz] at bO
  rw [World.size_alloc, hsz] at bN
  have hcN := bN.cell
  have hB0 : Below (w.heap.size + 1) wb ((wb.alloc (.cells #[.slice none 0 0] 41)).alloc (.cells #[.slice A zs.length c] 22)) := by rw [← hsz]; exact ((Below.refl _ wb).alloc (Nat.le_refl _) _).alloc (by simp) _
  refine wpIn_rangeFunc_ownG rfl h1 (gf := 34) (lb := #[.pointer (some ⟨w.heap.size + 2, 0, none⟩)]) rfl trivial (enters_of Try.func34 (by kernel_rfl) rfl)
    (set_stops Fence.wide 4 trivial trivial rfl (by omega) (w.heap.size + 2) (w.heap.size + 1) wb (by omega) A c zs (Kd.C_below hC hwB) hf _ hB0 (by simp; omega) (by simp; omega) hcN) belowK_t (belowK_b (by simp; omega)) (Below.refl _ _) (fun _ => rfl)
    (fun (pre : List Int) W => (∃ v, Boxed W (w.heap.size + 1) 41 v ∧ W.ownsRow (w.heap.size + 1) 3 1 v (wo bs pre).length ((wo bs pre).map (Value.int .i64)) ∧ True) ∧ Below (w.heap.size + 1) wb W)
    (fun _ (_ : List Int) _ => False)
    (OwnFrom.and (Own.from (holdsRow_own (w.heap.size + 1) (w.heap.size + 1) 41 3 1 (fun (pre : List Int) => (wo bs pre).length) (fun (pre : List Int) => (wo bs pre).map (Value.int .i64)) (fun (_ : List Int) _ => True)) _) (ownFrom_below (by omega) (by simp; omega)))
    (fun _ _ _ _ _ hs _ _ => hs)
    ⟨⟨_, bO.alloc _, World.ownsRow_nil _ _ _ _, trivial⟩, hB0⟩
    (fun x => { tmps := #[.slice A zs.length c, .slice B bs.length cb, undef, .pointer (some ⟨w.heap.size, 0, none⟩), .slice none 0 0, .pointer (some ⟨w.heap.size + 1, 0, none⟩), .int .i64 x, .slice A zs.length c, .func (.func 34) #[] #[.pointer (some ⟨w.heap.size + 2, 0, none⟩)], .int .i64 x, undef, undef, undef, undef, undef, undef, undef, undef, undef], defers := [] }) ?assign ?body ?done ?stop
  case assign =>
    intro l x W K hK
    gi_wp2
    exact hK
  case body =>
    rintro l pre x W ⟨⟨v, hv, hrow, -⟩, hB⟩ hlt
    have hc := hv.cell
    have hcBW := (hB.cell (p := ⟨w.heap.size, 0, none⟩) (by simp)).trans hcB
    have hDW : Kd.C (Kd.int .u8) W B bs.length bs := Kd.C_below (Kd.C_below hD hwB) (hB.mono (by omega))
    have hpl : (wo bs pre).length ≤ pre.length := List.length_filter_le _ _
    have hBsz := hB.size
    have hget := get_hasBit bs x
    cases hbit : hasBit bs x with
    | true =>
      rw [hbit] at hget
      have hm := wo_miss bs pre hbit
      have Hg := Lib.hid hget
      have Hm := Lib.hid hm
      clear hget hm hbit
      gi_wp2_with (refine ⟨trivial, ?_⟩; gi_at_call 15; refine (CallsIn.inRound l (callsIn_wide.2 (get_is _ _ bs x true _ hDW hcb Hg.out))).mono ?_; rintro e W2 ⟨rfl, nd, hW2⟩; have hv2 : Boxed W2 (w.heap.size + 1) 41 v := (by rw [← hW2]; exact hv); have hrow2 : W2.ownsRow (w.heap.size + 1) 3 1 v (wo bs pre).length ((wo bs pre).map (Value.int .i64)) := (by rw [← hW2]; exact hrow); have hB2 : Below (w.heap.size + 1) wb W2 := (by rw [← hW2]; exact pw_below_drewN hB nd); have hK2 : ∀ B, KeepsFrom B W W2 := (by intro B; rw [← hW2]; exact keepsFrom_drewN B W nd); have hBW2 : Below (w.heap.size + 1) W W2 := (by rw [← hW2]; exact pw_below_drewN (Below.refl _ W) nd); clear hW2; have hc2 := hv2.cell)
      exact ⟨hK2 _, hBW2, ⟨v, hv2, by rw [Hm.out]; exact hrow2, trivial⟩, hB2⟩
    | false =>
      rw [hbit] at hget
      have hm := wo_hit bs pre hbit
      have Hg := Lib.hid hget
      have Hm := Lib.hid hm
      clear hget hm hbit
      gi_wp2_with (first | (refine ⟨trivial, ?_⟩; gi_at_call 15; refine (CallsIn.inRound l (callsIn_wide.2 (get_is _ _ bs x false _ hDW hcb Hg.out))).mono ?_; rintro e W2 ⟨rfl, nd, hW2⟩; have hv2 : Boxed W2 (w.heap.size + 1) 41 v := (by rw [← hW2]; exact hv); have hrow2 : W2.ownsRow (w.heap.size + 1) 3 1 v (wo bs pre).length ((wo bs pre).map (Value.int .i64)) := (by rw [← hW2]; exact hrow); have hB2 : Below (w.heap.size + 1) wb W2 := (by rw [← hW2]; exact pw_below_drewN hB nd); have hK2 : ∀ B, KeepsFrom B W W2 := (by intro B; rw [← hW2]; exact keepsFrom_drewN B W nd); have hBW2 : Below (w.heap.size + 1) W W2 := (by rw [← hW2]; exact pw_below_drewN (Below.refl _ W) nd); clear hW2; have hc2 := hv2.cell) | (gi_at_builtin; refine wpListIn_append_own _ rfl _ _ 41 rfl (w.heap.size + 1) 3 i0 (.int .i64 0) 1 8 Try.underlying41 hi hz0 hz1 hz2 rfl (by decide) _ _ _ rfl (hrow2.alloc _) ⟨_, 0, none⟩ 1 1 [.int .i64 x] rfl rfl (cell_one_new _ _ _) (by simp [Value.oneCell']) (by unfold maxLen; omega) (by omega) (by have := hB2.size; simp; omega) ?_; intro v' w1 hown' hgrow _; obtain ⟨g', cap', rfl⟩ := ownsRow_succ hown'; obtain ⟨hv1, hv2', hr2, hk2, hb2⟩ := hv2.appended (by decide) hrow2 (by have := hB2.size; omega) (Nat.le_refl _) hown' hgrow; have hc1 := hv1.cell; have hf1 := hv1.frozen))
      exact ⟨(hK2 _).trans (hk2.from _), hBW2.trans hb2, ⟨_, hv2', by rw [Hm.out]; simpa using hr2, trivial⟩, hB2.trans hb2⟩
  case done =>
    rintro D ys W hD rfl ⟨⟨v, hv, hrow, -⟩, hB⟩ hK
    have hc := hv.cell
    gi_wp2
    refine ⟨by simp, .inl ⟨_, _, rfl, run_takeDeferred hK, ?_⟩⟩
    exact ⟨_, results_tmp rfl _ _ _, v, rfl, own_weaken (ownsRow_putObj hrow _ hK rfl) (by omega), hwB.trans ((hB.trans (belowK_b (w := wb) (by omega) W D _ _ (by simp at hD; omega) hK rfl rfl)).mono (by omega))⟩
  case stop =>
    rintro D c pre W _ _ h _
    exact h.elim
end Go.Proofs.Yteodjknknpdmeaa.PG
