import Derived.Test.YtehjmmedghcndaaCK1
import Derived.Test.YtehjmmedghcndaaCH
import Derived.Test.YtehjmmedghcndaaCK3
import Derived.Laws.Cover3
/-! The group that bytes say: cyl.Decode, walked. -/
namespace Go.Proofs.Ytehjmmedghcndaa.PG
open Go.RowKit Go.Proofs.YtehjmmedghcndaaW.PrintWords Go.Proofs.YtehjmmedghcndaaW.PrintLast Go.Proofs.YtehjmmedghcndaaW.PrintMore
theorem add_z (g j : Nat) : (⟨g, 0, none⟩ : Addr).add j = ⟨g, j, none⟩ := by unfold Addr.add; split <;> simp_all
theorem Hd.R {w : World} {g base : Nat} {H : List Int} (h : Hd w g H) (hl : H.length = 32) (hb : base ≤ g) : Kd.R (Kd.int .u8) 84 w base (fun _ => True) (.slice (some ⟨g, 0, none⟩) 32 32) H := by
  refine Kd.R_of_own (enc := Value.int .u8) (h1 := fun _ => rfl) ⟨by simp [encs], .inr ⟨g, 32, _, by rw [hl], hb, h, by omega, by decide, by simp [hl], by rw [List.take_of_length_le (by simp)]; simp [encs]⟩⟩ (fun _ _ => trivial)
theorem Hd.mid {w : World} {g : Nat} {H : List Int} (h : Hd w g H) (hl : H.length = 32) (lo hi : Nat) (h1 : lo ≤ hi) (h2 : hi ≤ 32) (h3 : lo < 32) : Kd.C (Kd.int .u8) w (some ⟨g, lo, none⟩) ((H.take hi).drop lo).length ((H.take hi).drop lo) := by
  have h0 := (Kd.R_reads' (h.R hl (Nat.zero_le g))).2.2
  have := Kd.C_mid (c := 32) h0 h1 (by omega) (by omega)
  rw [if_neg (by omega)] at this
  rw [Option.map_some, show lo * (Kd.int .u8).sz = lo from Nat.mul_one lo, add_z] at this
  exact this
theorem list_hd {w : World} {g : Nat} {H : List Int} (h : Hd w g H) (hl : H.length = 32) (hB : ∀ x ∈ H, 0 ≤ x ∧ x < 256) (lo hi n cap : Nat) (h1 : lo ≤ hi) (h2 : hi ≤ 32) (h3 : lo < 32) (hn : hi - lo = n) (hc : n ≤ cap) :
    Calls Try.prog 65 #[.slice (some ⟨g, lo, none⟩) n cap] w fun e w' => ∃ A c, e = .returned (.slice A (bitsOf ((H.take hi).drop lo)).length c) ∧ Kd.R (Kd.int .i64) 3 w' w.heap.size (fun _ => True) (.slice A (bitsOf ((H.take hi).drop lo)).length c) (bitsOf ((H.take hi).drop lo)) ∧ Below w.heap.size w w' := by
  have hlen : ((H.take hi).drop lo).length = n := by rw [List.length_drop, List.length_take]; omega
  have hf : Fine ((H.take hi).drop lo) := ⟨fun x hx => hB x (List.mem_of_mem_take (List.mem_of_mem_drop hx)), by omega⟩
  have := bitset_List.calls (some ⟨g, lo, none⟩) cap _ (bitsOf ((H.take hi).drop lo)) w (h.mid hl lo hi h1 h2 h3) (by omega) (if_pos hf)
  rw [hlen] at this
  refine this.mono ?_
  rintro e w' ⟨v, rfl, hR, hb⟩
  obtain ⟨A, c, rfl⟩ := Kd.R_slice hR
  exact ⟨A, c, rfl, hR, hb⟩
theorem skipD_ {P : Program} {ops : Array Oper} {Q : Exit → Act → World → Prop} {oi : Oper} {a : Act} {w w1 : World} {K : Act → World → Prop} (hw : Region.wanted oi (yielded ops a.tmps) = true) (hN : oi.dst = none) (hrun : (execOp a.eval oi).run P w = .ok .skip w1)
    (h : ∀ w', w' = w1 → K a w') : if Region.wanted oi (yielded ops a.tmps) = true then Oper.wp P oi a w K Q else K (a.put none undef) w := skip_ hw hN hrun (h _ rfl)
def decC (l : List Int) : S42 := ⟨l.getD 1 0, l.getD 2 0, l.getD 3 0, l.getD 4 0, l.getD 5 0, bitsOf ((l.take 14).drop 6), bitsOf ((l.take 16).drop 14)⟩
/-- Loading all of a block of bytes. -/
theorem run_loadAt_hd {w : World} {ad : Addr} {l : List Int} (hl : l.length = 32) (h : ∀ j x, l[j]? = some x → w.cell? (ad.add j) = some (.int .u8 x)) : (Instr.loadAt 84 (.pointer (some ad))).run Try.prog w = .ok (.agg (l.map (Value.int .u8)).toArray) w := by
  have hc := run_loadCells_list (P := Try.prog) w ad (l.map (Value.int .u8)) (fun j v hv => by
    rw [List.getElem?_map, Option.map_eq_some_iff] at hv
    obtain ⟨x, hx, rfl⟩ := hv
    exact h j x hx)
  rw [List.length_map, hl] at hc
  have hagg : ∀ W, (isAgg 84).run Try.prog W = .ok true W := fun W => by
    unfold isAgg
    rw [Sem.run_bind, run_underlying Try.underlying84 W]
    rfl
  have hsz : ∀ W, (sizeOf 84).run Try.prog W = .ok 32 W := fun W => by
    have hi : (Try.prog.info? 84).map (·.size) = some 32 := by kernel_rfl
    cases hq : Try.prog.info? 84 with
    | none => simp [hq] at hi
    | some i =>
      have hs : i.size = 32 := by simpa [hq] using hi
      simp [sizeOf, typeInfo, hq, hs]
  simp only [Instr.loadAt, Instr.sureAddr, loadVar, Sem.run_bind, Sem.run_pure, Result.andThen_ok, hagg, hsz, hc, if_true]
theorem exec_load_hd {o : Oper} {ρ : Operand → Value} {w : World} {ad : Addr} {l : List Int} (x : Operand) (ho : o.op = .load 84 x) (hx : ρ x = .pointer (some ad)) (hl : l.length = 32) (h : ∀ j x, l[j]? = some x → w.cell? (ad.add j) = some (.int .u8 x)) :
    (execOp ρ o).run Try.prog w = .ok (.value (.agg (l.map (Value.int .u8)).toArray)) w := by
  unfold execOp
  simp only [ho, hx, Sem.run_bind, Sem.run_pure, Result.andThen_ok, run_loadAt_hd hl h]
theorem wpList_load_hd {ops : Array Oper} {rest : List Oper} {o : Oper} {a : Act} {w : World} {Q : Exit → Act → World → Prop} (hgd : o.guard = none) (x : Operand) (ho : o.op = .load 84 x) (ad : Addr) (hx : a.eval x = .pointer (some ad)) {l : List Int} (hl : l.length = 32) (h : ∀ j x, l[j]? = some x → w.cell? (ad.add j) = some (.int .u8 x))
    (hk : wpList Try.prog ops Q rest (a.put o.dst (.agg (l.map (Value.int .u8)).toArray)) w) : wpList Try.prog ops Q (o :: rest) a w :=
  wpList_plain hgd fun _ hK => by
    unfold Oper.wp
    rw [exec_load_hd x ho hx hl h]
    exact hK _ _ hk
theorem Hd.at_ {w : World} {g : Nat} {H : List Int} (h : Hd w g H) : ∀ j x, H[j]? = some x → w.cell? ((⟨g, 0, none⟩ : Addr).add j) = some (.int .u8 x) := fun j x hx => by
  have hj := (List.getElem?_eq_some_iff.1 hx).1
  have := h.cell hj
  rw [List.getD_eq_getElem?_getD, hx] at this
  rw [add_z]
  simpa using this

set_option maxHeartbeats 8000000 in
set_option maxRecDepth 100000 in
theorem decode_short (A0 : Option Addr) (c0 : Nat) (l : List Int) (w : World) (hC : Kd.C (Kd.int .u8) w A0 l.length l) (hc : l.length ≤ c0) (hl : l.length ≠ 32) :
    Calls Try.prog 32 #[.slice A0 l.length c0] w fun e w' => e = .returned (.tuple #[.agg #[.int .i64 0, .int .i64 0, .int .i64 0, .int .i64 0, .int .i64 0, .slice none 0 0, .slice none 0 0], .int .i64 3]) ∧ Below w.heap.size w w' := by
  have hu42 := Try.underlying42
  have n1 : ((l.length : Int) != 32) = true := by rw [bne_iff_ne]; omega
  have n2 : ((l.length : Int) == 32) = false := by rw [beq_eq_false_iff_ne]; omega
  have n3 : ¬ ((l.length : Int) = 32) := by omega
  have n4 : ¬ (l.length = 32) := hl
  go_enter Try.func32, Try.ntmps32
  go_wp2_with (first | ((with_reducible refine gate_dst (N := 2) rfl ?_); refine box_event ?hg (N := 2) ?hd (cs := #[.int .i64 0, .int .i64 0, .int .i64 0, .int .i64 0, .int .i64 0, .slice none 0 0, .slice none 0 0]) (t := 42) ?hr ?_; (case hd => rfl); (case hg => rfl); (case hr => first | (go_simp; done) | (go_simp; rfl)); intro g2 hg w1 hbox hb; have K2_1 := Aside0.mk hbox; have HB1 := Aside0.mk hb; have P2 := Aside0.mk (show w.heap.size ≤ g2 by omega); have r0 : w1.cell? ⟨g2, 0, none⟩ = some (.int .i64 0) := (blk_cell K2_1.out 0).trans rfl; have r1 : w1.cell? ⟨g2, 1, none⟩ = some (.int .i64 0) := (blk_cell K2_1.out 1).trans rfl; have r2 : w1.cell? ⟨g2, 2, none⟩ = some (.int .i64 0) := (blk_cell K2_1.out 2).trans rfl; have r3 : w1.cell? ⟨g2, 3, none⟩ = some (.int .i64 0) := (blk_cell K2_1.out 3).trans rfl; have r4 : w1.cell? ⟨g2, 4, none⟩ = some (.int .i64 0) := (blk_cell K2_1.out 4).trans rfl; have r5 : w1.cell? ⟨g2, 5, none⟩ = some (.slice none 0 0) := (blk_cell K2_1.out 5).trans rfl; have r6 : w1.cell? ⟨g2, 6, none⟩ = some (.slice none 0 0) := (blk_cell K2_1.out 6).trans rfl; have z0 := blk_frozen K2_1.out 0; have z1 := blk_frozen K2_1.out 1; have z2 := blk_frozen K2_1.out 2; have z3 := blk_frozen K2_1.out 3; have z4 := blk_frozen K2_1.out 4; have z5 := blk_frozen K2_1.out 5; have z6 := blk_frozen K2_1.out 6; clear hb hbox hg) | ((with_reducible refine gate_store (t := 42) (p := 2) rfl ?_); refine wpList_store_row ?hg 42 (.tmp 2) (.tmp 11) ?ho g2 (#[.int .i64 0, .int .i64 0, .int .i64 0, .int .i64 0, .int .i64 0, .slice none 0 0, .slice none 0 0]) ?hx ?hy 42 _ K2_1.out ?hi ?hold ?h1 ?_; (case hg => rfl); (case ho => rfl); (case hx => rfl); (case hy => rfl); (case hi => exact (by kernel_rfl : (Try.prog.info? 42).map (·.size) = some 7)); (case hold => rfl); (case h1 => simp [Value.oneCell']); obtain ⟨w2, hw⟩ : ∃ w_, w1.setRow g2 (#[.int .i64 0, .int .i64 0, .int .i64 0, .int .i64 0, .int .i64 0, .slice none 0 0, .slice none 0 0]) = w_ := ⟨_, rfl⟩; rw [hw]; have K2_2 : Aside0 (w2.heap[g2]? = some (.cells #[.int .i64 0, .int .i64 0, .int .i64 0, .int .i64 0, .int .i64 0, .slice none 0 0, .slice none 0 0] 42 (0, 0))) := ⟨by rw [← hw]; exact row_here K2_1.out _⟩; have HB2 : Aside0 (Below w.heap.size w w2) := ⟨by rw [← hw]; exact below_setRow HB1.out P2.out _⟩; clear hw))
  refine bodyPost_ret (results_list (rs := [.cell 2 42, .tmp 3]) rfl (by simp) (.cell g2 42 #[.int .i64 0, .int .i64 0, .int .i64 0, .int .i64 0, .int .i64 0, .slice none 0 0, .slice none 0 0] (0, 0) _ rfl K2_2.out hu42 rfl (by kernel_rfl) (.tmp .nil))) rfl ?_
  exact ⟨rfl, HB2.out⟩

def dc_T5 : Bool × List (List Nat × List Nat) := (true, [([], []), ([0], [0]), ([], []), ([2, 1], [2]), ([0, 1], []), ([4, 1, 3, 0, 1], [1, 4]), ([0, 1, 2, 3, 4, 5], []), ([6, 3, 5, 0, 1, 2, 3, 4, 5], [3, 6])])
def dc_B5 : List Nat := [0, 1, 0, 7, 3, 31, 63, 127]
theorem dc_tab5 : rtab .any (opsOf Try.f32 5) = dc_T5 := by kernel_rfl
theorem dc_bits5 : waitsOk dc_T5.2 dc_B5 = true := by kernel_rfl
def dc_T7 : Bool × List (List Nat × List Nat) := (true, [([], []), ([0], [0]), ([1], [1]), ([2], [2]), ([3, 2], [2, 3]), ([4, 2], [2, 4]), ([2], [2]), ([5, 6, 2], [2, 5, 6]), ([2, 7], [2, 7])])
def dc_B7 : List Nat := [0, 1, 3, 7, 15, 31, 7, 127, 255]
theorem dc_tab7 : rtab .any (opsOf Try.f32 7) = dc_T7 := by kernel_rfl
theorem dc_bits7 : waitsOk dc_T7.2 dc_B7 = true := by kernel_rfl
set_option maxHeartbeats 8000000 in
set_option maxRecDepth 100000 in
theorem decode_bad (b1 b2 b3 b4 b5 : Int) (F5 F6 : List Int) (A0 : Option Addr) (c0 : Nat) (l : List Int) (w : World) (hC : Kd.C (Kd.int .u8) w A0 l.length l) (hc : l.length ≤ c0) (hl : l.length = 32) (hB : ∀ x ∈ l, 0 ≤ x ∧ x < 256) (e1 : l.getD 1 0 = b1) (e2 : l.getD 2 0 = b2) (e3 : l.getD 3 0 = b3) (e4 : l.getD 4 0 = b4) (e5 : l.getD 5 0 = b5) (hF5 : bitsOf ((l.take 14).drop 6) = F5) (hF6 : bitsOf ((l.take 16).drop 14) = F6) (K : Nat) (hr : cyl_Right.f K b1 b2 b3 b4 b5 F5 F6 = some false) :
    Calls Try.prog 32 #[.slice A0 l.length c0] w fun e w' => e = .returned (.tuple #[.agg #[.int .i64 0, .int .i64 0, .int .i64 0, .int .i64 0, .int .i64 0, .slice none 0 0, .slice none 0 0], .int .i64 3]) ∧ Below w.heap.size w w' := by
  have hu42 := Try.underlying42
  have hu84 := Try.underlying84
  have n1 : ((l.length : Int) != 32) = false := by rw [bne_eq_false_iff_eq]; omega
  have n2 : ((l.length : Int) == 32) = true := by rw [beq_iff_eq]; omega
  have n3 : ((l.length : Int) = 32) = True := eq_true (by omega)
  have n4 : (l.length = 32) = True := eq_true hl
  obtain ⟨ad, rfl, hat⟩ : ∃ ad, A0 = some ad ∧ ∀ j x, l[j]? = some x → w.cell? (ad.add j) = some (.int .u8 x) := by
    obtain ⟨ad, e, _⟩ := Kd.at_int hC (0 : Int) (by omega) (by omega)
    refine ⟨ad, e, fun j x hx => ?_⟩
    have hj : j < l.length := (List.getElem?_eq_some_iff.1 hx).1
    obtain ⟨ad2, e2, h2⟩ := Kd.at_int hC (j : Int) (by omega) (by omega)
    rw [e] at e2
    obtain rfl := Option.some.inj e2
    have h3 : rd l (j : Int) = x := by simp [rd, List.getD_eq_getElem?_getD, hx]
    rw [h3] at h2
    simpa using h2
  have hap : ∀ W, (Instr.arrayAt 84 (.slice (some ad) l.length c0)).run Try.prog W = .ok (.pointer (some ad)) W := fun W => run_arrayAt W 84 5 32 (some ad) l.length c0 Try.underlying84 (by omega)
  have HL := Aside0.mk hl
  have HBY := Aside0.mk hB
  have HAT := Aside0.mk hat
  have HF5 := Aside0.mk hF5
  have HF6 := Aside0.mk hF6
  have E1 := Aside0.mk e1
  have E2 := Aside0.mk e2
  have E3 := Aside0.mk e3
  have E4 := Aside0.mk e4
  have E5 := Aside0.mk e5
  have wb1 : IntKind.i64.wrap b1 = b1 := IntWalk.i64_in _ (by have h_ := hB (l.getD 1 0) (by rw [List.getD_eq_getElem?_getD, List.getElem?_eq_getElem (show 1 < l.length by omega)]; exact List.getElem_mem _); rw [e1] at h_; omega)
  have wb2 : IntKind.i64.wrap b2 = b2 := IntWalk.i64_in _ (by have h_ := hB (l.getD 2 0) (by rw [List.getD_eq_getElem?_getD, List.getElem?_eq_getElem (show 2 < l.length by omega)]; exact List.getElem_mem _); rw [e2] at h_; omega)
  have wb3 : IntKind.i64.wrap b3 = b3 := IntWalk.i64_in _ (by have h_ := hB (l.getD 3 0) (by rw [List.getD_eq_getElem?_getD, List.getElem?_eq_getElem (show 3 < l.length by omega)]; exact List.getElem_mem _); rw [e3] at h_; omega)
  have wb4 : IntKind.i64.wrap b4 = b4 := IntWalk.i64_in _ (by have h_ := hB (l.getD 4 0) (by rw [List.getD_eq_getElem?_getD, List.getElem?_eq_getElem (show 4 < l.length by omega)]; exact List.getElem_mem _); rw [e4] at h_; omega)
  have wb5 : IntKind.i64.wrap b5 = b5 := IntWalk.i64_in _ (by have h_ := hB (l.getD 5 0) (by rw [List.getD_eq_getElem?_getD, List.getElem?_eq_getElem (show 5 < l.length by omega)]; exact List.getElem_mem _); rw [e5] at h_; omega)
  have HR := Aside0.mk hr
  clear hr
  clear hl hB hat hF5 hF6 e1 e2 e3 e4 e5 hC hc
  go_enter Try.func32, Try.ntmps32
  go_upto_region 3 with (first | ((with_reducible refine gate_dst (N := 2) rfl ?_); refine box_event ?hg (N := 2) ?hd (cs := #[.int .i64 0, .int .i64 0, .int .i64 0, .int .i64 0, .int .i64 0, .slice none 0 0, .slice none 0 0]) (t := 42) ?hr ?_; (case hd => rfl); (case hg => rfl); (case hr => first | (go_simp; done) | (go_simp; rfl)); intro g2 hg w1 hbox hb; have K2_1 := Aside0.mk hbox; have HB1 := Aside0.mk hb; have P2 := Aside0.mk (show w.heap.size ≤ g2 by omega); have r0 : w1.cell? ⟨g2, 0, none⟩ = some (.int .i64 0) := (blk_cell K2_1.out 0).trans rfl; have r1 : w1.cell? ⟨g2, 1, none⟩ = some (.int .i64 0) := (blk_cell K2_1.out 1).trans rfl; have r2 : w1.cell? ⟨g2, 2, none⟩ = some (.int .i64 0) := (blk_cell K2_1.out 2).trans rfl; have r3 : w1.cell? ⟨g2, 3, none⟩ = some (.int .i64 0) := (blk_cell K2_1.out 3).trans rfl; have r4 : w1.cell? ⟨g2, 4, none⟩ = some (.int .i64 0) := (blk_cell K2_1.out 4).trans rfl; have r5 : w1.cell? ⟨g2, 5, none⟩ = some (.slice none 0 0) := (blk_cell K2_1.out 5).trans rfl; have r6 : w1.cell? ⟨g2, 6, none⟩ = some (.slice none 0 0) := (blk_cell K2_1.out 6).trans rfl; have z0 := blk_frozen K2_1.out 0; have z1 := blk_frozen K2_1.out 1; have z2 := blk_frozen K2_1.out 2; have z3 := blk_frozen K2_1.out 3; have z4 := blk_frozen K2_1.out 4; have z5 := blk_frozen K2_1.out 5; have z6 := blk_frozen K2_1.out 6; clear hb hbox hg))
  clear n1 n2 r0 r1 r2 r3 r4 r5 r6 z0 z1 z2 z3 z4 z5 z6
  go_upto_region 4 with (first | ((with_reducible refine gate_dst (N := 14) rfl ?_); refine wpList_load_hd rfl (.tmp 13) rfl ad rfl HL.out (fun j x hx => pw_cell_below HB1.out (HAT.out j x hx)) ?_) | ((with_reducible refine gate_dst (N := 4) rfl ?_); refine box_event ?hg (N := 4) ?hd (cs := #[.int .u8 0, .int .u8 0, .int .u8 0, .int .u8 0, .int .u8 0, .int .u8 0, .int .u8 0, .int .u8 0, .int .u8 0, .int .u8 0, .int .u8 0, .int .u8 0, .int .u8 0, .int .u8 0, .int .u8 0, .int .u8 0, .int .u8 0, .int .u8 0, .int .u8 0, .int .u8 0, .int .u8 0, .int .u8 0, .int .u8 0, .int .u8 0, .int .u8 0, .int .u8 0, .int .u8 0, .int .u8 0, .int .u8 0, .int .u8 0, .int .u8 0, .int .u8 0]) (t := 84) ?hr ?_; (case hd => rfl); (case hg => rfl); (case hr => first | (go_simp; done) | (go_simp; rfl)); intro g4 hg w2 hbox hb; have K4_2 := Aside0.mk hbox; have K2_2 := Aside0.mk (blk_below K2_1.out hb); have HB2 := Aside0.mk (below_step HB1.out hb); have P4 := Aside0.mk (show w.heap.size ≤ g4 by rw [hg]; exact HB1.out.size); have N24 := Aside0.mk (show g2 ≠ g4 by rw [hg]; exact Nat.ne_of_lt (blk_lt K2_1.out)); clear hb hbox hg) | ((with_reducible refine gate_store (t := 84) (p := 4) rfl ?_); refine wpList_store_row ?hg 84 (.tmp 4) (.tmp 14) ?ho g4 ((l.map (Value.int .u8)).toArray) ?hx ?hy 84 _ K4_2.out ?hi ?hold ?h1 ?_; (case hg => rfl); (case ho => rfl); (case hx => rfl); (case hy => rfl); (case hi => exact (by rw [show ((l.map (Value.int .u8)).toArray).size = 32 by simp [HL.out]]; kernel_rfl)); (case hold => simp [HL.out]); (case h1 => simp [Value.oneCell']); obtain ⟨w3, hw⟩ : ∃ w_, w2.setRow g4 ((l.map (Value.int .u8)).toArray) = w_ := ⟨_, rfl⟩; rw [hw]; have HD3 : Aside0 (Hd w3 g4 l) := ⟨by rw [← hw]; exact row_here K4_2.out _⟩; have K2_3 : Aside0 (w3.heap[g2]? = some (.cells #[.int .i64 0, .int .i64 0, .int .i64 0, .int .i64 0, .int .i64 0, .slice none 0 0, .slice none 0 0] 42 (0, 0))) := ⟨by rw [← hw]; exact (row_far N24.out _).trans K2_2.out⟩; have HB3 : Aside0 (Below w.heap.size w w3) := ⟨by rw [← hw]; exact below_setRow HB2.out P4.out _⟩; clear K4_2 K2_2 HB2; clear hw))
  clear hap
  have q1 : w3.cell? ⟨g4, 1, none⟩ = some (.int .u8 b1) := by rw [← E1.out]; exact HD3.out.cell (by rw [HL.out]; decide)
  have q2 : w3.cell? ⟨g4, 2, none⟩ = some (.int .u8 b2) := by rw [← E2.out]; exact HD3.out.cell (by rw [HL.out]; decide)
  have q3 : w3.cell? ⟨g4, 3, none⟩ = some (.int .u8 b3) := by rw [← E3.out]; exact HD3.out.cell (by rw [HL.out]; decide)
  have q4 : w3.cell? ⟨g4, 4, none⟩ = some (.int .u8 b4) := by rw [← E4.out]; exact HD3.out.cell (by rw [HL.out]; decide)
  have q5 : w3.cell? ⟨g4, 5, none⟩ = some (.int .u8 b5) := by rw [← E5.out]; exact HD3.out.cell (by rw [HL.out]; decide)
  go_upto_region 5 with (first | ((with_reducible refine gate_dst (N := 5) rfl ?_); refine box_event ?hg (N := 5) ?hd (cs := #[.int .i64 0, .int .i64 0, .int .i64 0, .int .i64 0, .int .i64 0, .slice none 0 0, .slice none 0 0]) (t := 42) ?hr ?_; (case hd => rfl); (case hg => rfl); (case hr => first | (go_simp; done) | (go_simp; rfl)); intro g5 hg w4 hbox hb; have K5_4 := Aside0.mk hbox; have K2_4 := Aside0.mk (blk_below K2_3.out hb); have HD4 := Aside0.mk (HD3.out.below hb); have HB4 := Aside0.mk (below_step HB3.out hb); have P5 := Aside0.mk (show w.heap.size ≤ g5 by rw [hg]; exact HB3.out.size); have N25 := Aside0.mk (show g2 ≠ g5 by rw [hg]; exact Nat.ne_of_lt (blk_lt K2_3.out)); have N45 := Aside0.mk (show g4 ≠ g5 by rw [hg]; exact Nat.ne_of_lt HD3.out.lt); clear hb hbox hg) | ((with_reducible refine gate_store (t := 42) (p := 5) rfl ?_); refine wpList_store_row ?hg 42 (.tmp 5) (.tmp 30) ?ho g5 (#[.int .i64 b1, .int .i64 b2, .int .i64 b3, .int .i64 b4, .int .i64 b5, .slice none 0 0, .slice none 0 0]) ?hx ?hy 42 _ K5_4.out ?hi ?hold ?h1 ?_; (case hg => rfl); (case ho => rfl); (case hx => rfl); (case hy => rfl); (case hi => exact (by kernel_rfl : (Try.prog.info? 42).map (·.size) = some 7)); (case hold => rfl); (case h1 => simp [Value.oneCell']); obtain ⟨w5, hw⟩ : ∃ w_, w4.setRow g5 (#[.int .i64 b1, .int .i64 b2, .int .i64 b3, .int .i64 b4, .int .i64 b5, .slice none 0 0, .slice none 0 0]) = w_ := ⟨_, rfl⟩; rw [hw]; have K5_5 : Aside0 (w5.heap[g5]? = some (.cells #[.int .i64 b1, .int .i64 b2, .int .i64 b3, .int .i64 b4, .int .i64 b5, .slice none 0 0, .slice none 0 0] 42 (0, 0))) := ⟨by rw [← hw]; exact row_here K5_4.out _⟩; have HD5 : Aside0 (Hd w5 g4 l) := ⟨by rw [← hw]; exact (row_far N45.out _).trans HD4.out⟩; have K2_5 : Aside0 (w5.heap[g2]? = some (.cells #[.int .i64 0, .int .i64 0, .int .i64 0, .int .i64 0, .int .i64 0, .slice none 0 0, .slice none 0 0] 42 (0, 0))) := ⟨by rw [← hw]; exact (row_far N25.out _).trans K2_4.out⟩; have HB5 : Aside0 (Below w.heap.size w w5) := ⟨by rw [← hw]; exact below_setRow HB4.out P5.out _⟩; clear K5_4 HD4 K2_4 HB4; clear hw))
  clear q1 q2 q3 q4 q5 wb1 wb2 wb3 wb4 wb5
  refine start_ (n := 8) (S := fun w' => True) (ds := []) #[false, false, false, false, false, false, false, false] (by kernel_rfl) rfl rfl trivial (fun hHeld => ?_); refine with_tabW dc_tab5 dc_bits5 (fun HT_ HW_ => ?_)
  refine pure_ (i := 0) (N := some 31) (v := ?_) (a' := ?_) #[true, false, false, false, false, false, false, false] rfl rfl (any_of HT_.out (by kernel_rfl)) (fun _ _ _ h => h) (Or.inl ⟨by rfl, ?_⟩) ?_ ?_
  rotate_left
  · intro w'
    go_simp
    with_reducible rfl
  rotate_left
  · simp only [Act.put, List.setIfInBounds_toArray, List.set_cons_zero, List.set_cons_succ]
    rfl
  refine pure_ (i := 2) (N := some 33) (v := ?_) (a' := ?_) #[true, false, true, false, false, false, false, false] rfl rfl (any_of HT_.out (by kernel_rfl)) (fun _ _ _ h => h) (Or.inl ⟨by rfl, ?_⟩) ?_ ?_
  rotate_left
  · intro w'
    go_simp
    with_reducible rfl
  rotate_left
  · simp only [Act.put, List.setIfInBounds_toArray, List.set_cons_zero, List.set_cons_succ]
    rfl
  refine one_ (i := 1) (N := some 32) #[true, true, true, false, false, false, false, false] rfl rfl (one_of HT_.out (by kernel_rfl)) (by decide) (fun K hK => ?_)
  refine goes_ Try.func65 (by kernel_rfl) rfl #[.slice (some ⟨g4, 6, none⟩) 8 26] (by rfl) rfl rfl (by simp only [List.map_toArray, List.map_cons, List.map_nil]; rfl) ?_
  have hl_ := list_hd (HD5.out.below (below_drew (Below.refl _ _)) : Hd w5.drew g4 l) HL.out HBY.out 6 14 8 26 (by decide) (by decide) (by decide) rfl (by decide)
  rw [HF5.out] at hl_
  refine hl_.mono ?_
  rintro e w6 ⟨AF5, kF5, rfl, hR, hb⟩
  have RF5_6 := Aside0.mk hR
  have HB6 : Aside0 (Below w.heap.size w w6) := ⟨below_step (below_drew HB5.out) hb⟩
  have HD6 : Aside0 (Hd w6 g4 l) := ⟨((HD5.out.below (below_drew (Below.refl _ _)) : Hd w5.drew g4 l)).below hb⟩
  have K2_6 : Aside0 (w6.heap[g2]? = some (.cells #[.int .i64 0, .int .i64 0, .int .i64 0, .int .i64 0, .int .i64 0, .slice none 0 0, .slice none 0 0] 42 (0, 0))) := ⟨blk_below (blk_drew K2_5.out) hb⟩
  have K5_6 : Aside0 (w6.heap[g5]? = some (.cells #[.int .i64 b1, .int .i64 b2, .int .i64 b3, .int .i64 b4, .int .i64 b5, .slice none 0 0, .slice none 0 0] 42 (0, 0))) := ⟨blk_below (blk_drew K5_5.out) hb⟩
  have LT5 : Aside0 (g5 < w5.heap.size) := ⟨blk_lt K5_5.out⟩
  replace RF5_6 : Aside0 ((Kd.int .i64).R 3 w6 w5.heap.size (fun _ => True) (.slice AF5 F5.length kF5) F5) := ⟨Kd.R_lower RF5_6.out (Nat.le_refl _)⟩
  have SZ56 : Aside0 (w5.heap.size ≤ w6.heap.size) := ⟨hb.size⟩
  clear hR hb hl_
  refine ⟨_, rfl, ?_⟩
  refine hK.out _ _ trivial (fun hHeld => ?_)
  clear hK K
  refine norm_ (a' := ?_) ?_ ?_
  rotate_left
  · simp only [Act.put, List.setIfInBounds_toArray, List.set_cons_zero, List.set_cons_succ]
    rfl
  refine pure_ (i := 4) (N := some 35) (v := ?_) (a' := ?_) #[true, true, true, false, true, false, false, false] rfl rfl (any_of HT_.out (by kernel_rfl)) (fun _ _ _ h => h) (Or.inl ⟨by rfl, ?_⟩) ?_ ?_
  rotate_left
  · intro w'
    go_simp
    with_reducible rfl
  rotate_left
  · simp only [Act.put, List.setIfInBounds_toArray, List.set_cons_zero, List.set_cons_succ]
    rfl
  refine one_ (i := 3) (N := some 34) #[true, true, true, true, true, false, false, false] rfl rfl (one_of HT_.out (by kernel_rfl)) (by decide) (fun K hK => ?_)
  refine goes_ Try.func65 (by kernel_rfl) rfl #[.slice (some ⟨g4, 14, none⟩) 2 18] (by rfl) rfl rfl (by simp only [List.map_toArray, List.map_cons, List.map_nil]; rfl) ?_
  have hl_ := list_hd HD6.out HL.out HBY.out 14 16 2 18 (by decide) (by decide) (by decide) rfl (by decide)
  rw [HF6.out] at hl_
  refine hl_.mono ?_
  rintro e w7 ⟨AF6, kF6, rfl, hR, hb⟩
  have RF6_7 := Aside0.mk hR
  have HB7 : Aside0 (Below w.heap.size w w7) := ⟨below_step (HB6.out) hb⟩
  have HD7 : Aside0 (Hd w7 g4 l) := ⟨(HD6.out).below hb⟩
  have K2_7 : Aside0 (w7.heap[g2]? = some (.cells #[.int .i64 0, .int .i64 0, .int .i64 0, .int .i64 0, .int .i64 0, .slice none 0 0, .slice none 0 0] 42 (0, 0))) := ⟨blk_below (K2_6.out) hb⟩
  have K5_7 : Aside0 (w7.heap[g5]? = some (.cells #[.int .i64 b1, .int .i64 b2, .int .i64 b3, .int .i64 b4, .int .i64 b5, .slice none 0 0, .slice none 0 0] 42 (0, 0))) := ⟨blk_below (K5_6.out) hb⟩
  have RF6_7b := Aside0.mk RF6_7.out
  have RF5_7 : Aside0 ((Kd.int .i64).R 3 w7 w5.heap.size (fun k_ => some k_ ≠ (.slice AF6 F6.length kF6 : Value).ownBlock) (.slice AF5 F5.length kF5) F5) := ⟨Kd.R_mono (Kd.R_below (Kd.R_bound RF5_6.out) hb) (fun k hk e => by have h1_ := Kd.R_base RF6_7b.out k e.symm; have h2_ := hk.2.2.1; omega)⟩
  have SZ6 : Aside0 (w5.heap.size ≤ w6.heap.size) := ⟨SZ56.out⟩
  replace RF6_7 : Aside0 ((Kd.int .i64).R 3 w7 w5.heap.size (fun k_ => some k_ ≠ (.slice AF5 F5.length kF5 : Value).ownBlock) (.slice AF6 F6.length kF6) F6) := ⟨Kd.R_mono (Kd.R_lower (Kd.R_bound RF6_7b.out) SZ6.out) (fun k hk e => by have h1_ := ((Kd.R_bound RF5_6.out).1 k e.symm).2.2.1; have h2_ := hk.2.1; omega)⟩
  clear hR hb hl_
  refine ⟨_, rfl, ?_⟩
  refine hK.out _ _ trivial (fun hHeld => ?_)
  clear hK K
  refine norm_ (a' := ?_) ?_ ?_
  rotate_left
  · simp only [Act.put, List.setIfInBounds_toArray, List.set_cons_zero, List.set_cons_succ]
    rfl
  refine one_ (i := 5) (N := none) #[true, true, true, true, true, true, false, false] rfl rfl (one_of HT_.out (by kernel_rfl)) (by decide) (fun K hK => ?_)
  have q5 : w7.cell? ⟨g5, 5, none⟩ = some (.slice none 0 0) := (blk_cell K5_7.out 5).trans rfl
  have z5 := blk_frozen K5_7.out 5
  refine skipD_ (w1 := (w7.setCell ⟨g5, 5, none⟩ (.slice AF5 F5.length kF5))) (by rfl) rfl (by first | (go_simp; done) | (go_simp; rfl)) (fun w8 hw => ?_)
  have K5_8 : Aside0 (w8.heap[g5]? = some (.cells #[.int .i64 b1, .int .i64 b2, .int .i64 b3, .int .i64 b4, .int .i64 b5, .slice AF5 F5.length kF5, .slice none 0 0] 42 (0, 0))) := ⟨by rw [hw]; exact blk_put K5_7.out 5 _ rfl⟩
  have K2_8 : Aside0 (w8.heap[g2]? = some (.cells #[.int .i64 0, .int .i64 0, .int .i64 0, .int .i64 0, .int .i64 0, .slice none 0 0, .slice none 0 0] 42 (0, 0))) := ⟨by rw [hw]; exact blk_far K2_7.out (p := ⟨g5, 5, none⟩) N25.out _⟩
  have HD8 : Aside0 (Hd w8 g4 l) := ⟨by rw [hw]; exact blk_far HD7.out (p := ⟨g5, 5, none⟩) N45.out _⟩
  have HB8 : Aside0 (Below w.heap.size w w8) := ⟨by rw [hw]; exact below_set HB7.out P5.out⟩
  have RF5_8 : Aside0 ((Kd.int .i64).R 3 w8 w5.heap.size (fun k_ => some k_ ≠ (.slice AF6 F6.length kF6 : Value).ownBlock) (.slice AF5 F5.length kF5) F5) := ⟨by rw [hw]; exact Kd.R_mono (Kd.R_far (p := ⟨g5, 5, none⟩) (Kd.R_bound RF5_7.out) (fun k hk e => by have h1_ := hk.2.1; have h2_ := LT5.out; rw [e] at h1_; exact absurd h1_ (by show ¬ w5.heap.size ≤ g5; omega)) _) (fun _ hk => hk.1)⟩
  have RF6_8 : Aside0 ((Kd.int .i64).R 3 w8 w5.heap.size (fun k_ => some k_ ≠ (.slice AF5 F5.length kF5 : Value).ownBlock) (.slice AF6 F6.length kF6) F6) := ⟨by rw [hw]; exact Kd.R_mono (Kd.R_far (p := ⟨g5, 5, none⟩) (Kd.R_bound RF6_7.out) (fun k hk e => by have h1_ := hk.2.1; have h2_ := LT5.out; rw [e] at h1_; exact absurd h1_ (by show ¬ w5.heap.size ≤ g5; omega)) _) (fun _ hk => hk.1)⟩
  clear hw q5 z5
  refine hK.out _ _ trivial (fun hHeld => ?_)
  clear hK K
  refine pure_ (i := 6) (N := some 36) (v := ?_) (a' := ?_) #[true, true, true, true, true, true, true, false] rfl rfl (any_of HT_.out (by kernel_rfl)) (fun _ _ _ h => h) (Or.inl ⟨by rfl, ?_⟩) ?_ ?_
  rotate_left
  · intro w'
    go_simp
    with_reducible rfl
  rotate_left
  · simp only [Act.put, List.setIfInBounds_toArray, List.set_cons_zero, List.set_cons_succ]
    rfl
  refine one_ (i := 7) (N := none) #[true, true, true, true, true, true, true, true] rfl rfl (one_of HT_.out (by kernel_rfl)) (by decide) (fun K hK => ?_)
  have q6 : w8.cell? ⟨g5, 6, none⟩ = some (.slice none 0 0) := (blk_cell K5_8.out 6).trans rfl
  have z6 := blk_frozen K5_8.out 6
  refine skipD_ (w1 := (w8.setCell ⟨g5, 6, none⟩ (.slice AF6 F6.length kF6))) (by rfl) rfl (by first | (go_simp; done) | (go_simp; rfl)) (fun w9 hw => ?_)
  have K5_9 : Aside0 (w9.heap[g5]? = some (.cells #[.int .i64 b1, .int .i64 b2, .int .i64 b3, .int .i64 b4, .int .i64 b5, .slice AF5 F5.length kF5, .slice AF6 F6.length kF6] 42 (0, 0))) := ⟨by rw [hw]; exact blk_put K5_8.out 6 _ rfl⟩
  have K2_9 : Aside0 (w9.heap[g2]? = some (.cells #[.int .i64 0, .int .i64 0, .int .i64 0, .int .i64 0, .int .i64 0, .slice none 0 0, .slice none 0 0] 42 (0, 0))) := ⟨by rw [hw]; exact blk_far K2_8.out (p := ⟨g5, 6, none⟩) N25.out _⟩
  have HD9 : Aside0 (Hd w9 g4 l) := ⟨by rw [hw]; exact blk_far HD8.out (p := ⟨g5, 6, none⟩) N45.out _⟩
  have HB9 : Aside0 (Below w.heap.size w w9) := ⟨by rw [hw]; exact below_set HB8.out P5.out⟩
  have RF5_9 : Aside0 ((Kd.int .i64).R 3 w9 w5.heap.size (fun k_ => some k_ ≠ (.slice AF6 F6.length kF6 : Value).ownBlock) (.slice AF5 F5.length kF5) F5) := ⟨by rw [hw]; exact Kd.R_mono (Kd.R_far (p := ⟨g5, 6, none⟩) (Kd.R_bound RF5_8.out) (fun k hk e => by have h1_ := hk.2.1; have h2_ := LT5.out; rw [e] at h1_; exact absurd h1_ (by show ¬ w5.heap.size ≤ g5; omega)) _) (fun _ hk => hk.1)⟩
  have RF6_9 : Aside0 ((Kd.int .i64).R 3 w9 w5.heap.size (fun k_ => some k_ ≠ (.slice AF5 F5.length kF5 : Value).ownBlock) (.slice AF6 F6.length kF6) F6) := ⟨by rw [hw]; exact Kd.R_mono (Kd.R_far (p := ⟨g5, 6, none⟩) (Kd.R_bound RF6_8.out) (fun k hk e => by have h1_ := hk.2.1; have h2_ := LT5.out; rw [e] at h1_; exact absurd h1_ (by show ¬ w5.heap.size ≤ g5; omega)) _) (fun _ hk => hk.1)⟩
  clear hw q6 z6
  refine hK.out _ _ trivial (fun hHeld => ?_)
  clear hK K
  refine done_ (done_of HT_.out (by kernel_rfl)) ?_
  have q0 : w9.cell? ⟨g5, 0, none⟩ = some (.int .i64 b1) := (blk_cell K5_9.out 0).trans rfl
  have q1 : w9.cell? ⟨g5, 1, none⟩ = some (.int .i64 b2) := (blk_cell K5_9.out 1).trans rfl
  have q2 : w9.cell? ⟨g5, 2, none⟩ = some (.int .i64 b3) := (blk_cell K5_9.out 2).trans rfl
  have q3 : w9.cell? ⟨g5, 3, none⟩ = some (.int .i64 b4) := (blk_cell K5_9.out 3).trans rfl
  have q4 : w9.cell? ⟨g5, 4, none⟩ = some (.int .i64 b5) := (blk_cell K5_9.out 4).trans rfl
  have q5 : w9.cell? ⟨g5, 5, none⟩ = some (.slice AF5 F5.length kF5) := (blk_cell K5_9.out 5).trans rfl
  have q6 : w9.cell? ⟨g5, 6, none⟩ = some (.slice AF6 F6.length kF6) := (blk_cell K5_9.out 6).trans rfl
  go_upto_region 7 with (first | (go_at_call 30; refine (encode_bad ⟨b1, b2, b3, b4, b5, F5, F6⟩ AF5 kF5 AF6 kF6 K w9 (Kd.R_reads' RF5_9.out).2.2 (Kd.R_reads' RF5_9.out).2.1 (Kd.R_reads' RF6_9.out).2.2 (Kd.R_reads' RF6_9.out).2.1 HR.out).mono ?_; rintro e w10 ⟨rfl, hb⟩; have HB10 : Aside0 (Below w.heap.size w w10) := ⟨below_step HB9.out hb⟩; have HD10 : Aside0 (Hd w10 g4 l) := ⟨HD9.out.below hb⟩; have K2_10 : Aside0 (w10.heap[g2]? = some (.cells #[.int .i64 0, .int .i64 0, .int .i64 0, .int .i64 0, .int .i64 0, .slice none 0 0, .slice none 0 0] 42 (0, 0))) := ⟨blk_below K2_9.out hb⟩; have K5_10 : Aside0 (w10.heap[g5]? = some (.cells #[.int .i64 b1, .int .i64 b2, .int .i64 b3, .int .i64 b4, .int .i64 b5, .slice AF5 F5.length kF5, .slice AF6 F6.length kF6] 42 (0, 0))) := ⟨blk_below K5_9.out hb⟩; have RF5_10 := Aside0.mk (Kd.R_below RF5_9.out hb); have RF6_10 := Aside0.mk (Kd.R_below RF6_9.out hb); clear hb))
  clear q0 q1 q2 q3 q4 q5 q6
  refine start_ (n := 9) (S := fun w' => True) (ds := []) #[false, false, false, false, false, false, false, false, false] (by kernel_rfl) rfl rfl trivial (fun hHeld => ?_); refine with_tabW dc_tab7 dc_bits7 (fun HT_ HW_ => ?_)
  refine pure_ (i := 0) (N := some 42) (v := ?_) (a' := ?_) #[true, false, false, false, false, false, false, false, false] rfl rfl (any_of HT_.out (by kernel_rfl)) (fun _ _ _ h => h) (Or.inl ⟨by rfl, ?_⟩) ?_ ?_
  rotate_left
  · intro w'
    go_simp
    with_reducible rfl
  rotate_left
  · simp only [Act.put, List.setIfInBounds_toArray, List.set_cons_zero, List.set_cons_succ]
    rfl
  refine pure_ (i := 1) (N := some 43) (v := ?_) (a' := ?_) #[true, true, false, false, false, false, false, false, false] rfl rfl (any_of HT_.out (by kernel_rfl)) (fun _ _ _ h => h) (Or.inl ⟨by rfl, ?_⟩) ?_ ?_
  rotate_left
  · intro w'
    go_simp
    with_reducible rfl
  rotate_left
  · simp only [Act.put, List.setIfInBounds_toArray, List.set_cons_zero, List.set_cons_succ]
    rfl
  refine pure_ (i := 2) (N := some 44) (v := ?_) (a' := ?_) #[true, true, true, false, false, false, false, false, false] rfl rfl (any_of HT_.out (by kernel_rfl)) (fun _ _ _ h => h) (Or.inl ⟨by rfl, ?_⟩) ?_ ?_
  rotate_left
  · intro w'
    go_simp
    with_reducible rfl
  rotate_left
  · simp only [Act.put, List.setIfInBounds_toArray, List.set_cons_zero, List.set_cons_succ]
    rfl
  refine pure_ (i := 3) (N := some 45) (v := undef) (a' := ?_) #[true, true, true, true, false, false, false, false, false] rfl rfl (any_of HT_.out (by kernel_rfl)) (fun _ _ _ h => h) (Or.inr ⟨by rfl, rfl⟩) ?_ ?_
  rotate_left
  · simp only [Act.put, List.setIfInBounds_toArray, List.set_cons_zero, List.set_cons_succ]
    rfl
  refine pure_ (i := 4) (N := some 46) (v := undef) (a' := ?_) #[true, true, true, true, true, false, false, false, false] rfl rfl (any_of HT_.out (by kernel_rfl)) (fun _ _ _ h => h) (Or.inr ⟨by rfl, rfl⟩) ?_ ?_
  rotate_left
  · simp only [Act.put, List.setIfInBounds_toArray, List.set_cons_zero, List.set_cons_succ]
    rfl
  refine pure_ (i := 5) (N := some 47) (v := undef) (a' := ?_) #[true, true, true, true, true, true, false, false, false] rfl rfl (any_of HT_.out (by kernel_rfl)) (fun _ _ _ h => h) (Or.inr ⟨by rfl, rfl⟩) ?_ ?_
  rotate_left
  · simp only [Act.put, List.setIfInBounds_toArray, List.set_cons_zero, List.set_cons_succ]
    rfl
  refine pure_ (i := 6) (N := some 48) (v := undef) (a' := ?_) #[true, true, true, true, true, true, true, false, false] rfl rfl (any_of HT_.out (by kernel_rfl)) (fun _ _ _ h => h) (Or.inr ⟨by rfl, rfl⟩) ?_ ?_
  rotate_left
  · simp only [Act.put, List.setIfInBounds_toArray, List.set_cons_zero, List.set_cons_succ]
    rfl
  refine pure_ (i := 7) (N := some 49) (v := undef) (a' := ?_) #[true, true, true, true, true, true, true, true, false] rfl rfl (any_of HT_.out (by kernel_rfl)) (fun _ _ _ h => h) (Or.inr ⟨by rfl, rfl⟩) ?_ ?_
  rotate_left
  · simp only [Act.put, List.setIfInBounds_toArray, List.set_cons_zero, List.set_cons_succ]
    rfl
  refine pure_ (i := 8) (N := some 50) (v := ?_) (a' := ?_) #[true, true, true, true, true, true, true, true, true] rfl rfl (any_of HT_.out (by kernel_rfl)) (fun _ _ _ h => h) (Or.inl ⟨by rfl, ?_⟩) ?_ ?_
  rotate_left
  · intro w'
    go_simp
    with_reducible rfl
  rotate_left
  · simp only [Act.put, List.setIfInBounds_toArray, List.set_cons_zero, List.set_cons_succ]
    rfl
  refine done_ (done_of HT_.out (by kernel_rfl)) ?_
  obtain ⟨w11, hw11⟩ : ∃ w_, w10.drew = w_ := ⟨_, rfl⟩
  have HB11 : Aside0 (Below w.heap.size w w11) := ⟨by rw [← hw11]; exact below_drew HB10.out⟩
  have K2_11 : Aside0 (w11.heap[g2]? = some (.cells #[.int .i64 0, .int .i64 0, .int .i64 0, .int .i64 0, .int .i64 0, .slice none 0 0, .slice none 0 0] 42 (0, 0))) := ⟨by rw [← hw11]; exact blk_drew K2_10.out⟩
  have K5_11 : Aside0 (w11.heap[g5]? = some (.cells #[.int .i64 b1, .int .i64 b2, .int .i64 b3, .int .i64 b4, .int .i64 b5, .slice AF5 F5.length kF5, .slice AF6 F6.length kF6] 42 (0, 0))) := ⟨by rw [← hw11]; exact blk_drew K5_10.out⟩
  have RF5_11 : Aside0 ((Kd.int .i64).R 3 w11 w5.heap.size (fun k_ => some k_ ≠ (.slice AF6 F6.length kF6 : Value).ownBlock) (.slice AF5 F5.length kF5) F5) := ⟨by rw [← hw11]; exact Kd.R_drew RF5_10.out⟩
  have RF6_11 : Aside0 ((Kd.int .i64).R 3 w11 w5.heap.size (fun k_ => some k_ ≠ (.slice AF5 F5.length kF5 : Value).ownBlock) (.slice AF6 F6.length kF6) F6) := ⟨by rw [← hw11]; exact Kd.R_drew RF6_10.out⟩
  rw [hw11]
  clear hw11
  go_wp2_with (first | ((with_reducible refine gate_store (t := 42) (p := 2) rfl ?_); refine wpList_store_row ?hg 42 (.tmp 2) (.tmp 51) ?ho g2 (#[.int .i64 0, .int .i64 0, .int .i64 0, .int .i64 0, .int .i64 0, .slice none 0 0, .slice none 0 0]) ?hx ?hy 42 _ K2_11.out ?hi ?hold ?h1 ?_; (case hg => rfl); (case ho => rfl); (case hx => rfl); (case hy => rfl); (case hi => exact (by kernel_rfl : (Try.prog.info? 42).map (·.size) = some 7)); (case hold => rfl); (case h1 => simp [Value.oneCell']); obtain ⟨w12, hw⟩ : ∃ w_, w11.setRow g2 (#[.int .i64 0, .int .i64 0, .int .i64 0, .int .i64 0, .int .i64 0, .slice none 0 0, .slice none 0 0]) = w_ := ⟨_, rfl⟩; rw [hw]; have K2_12 : Aside0 (w12.heap[g2]? = some (.cells #[.int .i64 0, .int .i64 0, .int .i64 0, .int .i64 0, .int .i64 0, .slice none 0 0, .slice none 0 0] 42 (0, 0))) := ⟨by rw [← hw]; exact row_here K2_11.out _⟩; have HB12 : Aside0 (Below w.heap.size w w12) := ⟨by rw [← hw]; exact below_setRow HB11.out P2.out _⟩; clear hw))
  refine bodyPost_ret (results_list (rs := [.cell 2 42, .tmp 3]) rfl (by simp) (.cell g2 42 #[.int .i64 0, .int .i64 0, .int .i64 0, .int .i64 0, .int .i64 0, .slice none 0 0, .slice none 0 0] (0, 0) _ rfl K2_12.out hu42 rfl (by kernel_rfl) (.tmp .nil))) rfl ?_
  exact ⟨rfl, HB12.out⟩

set_option maxHeartbeats 8000000 in
set_option maxRecDepth 100000 in
theorem decode_ne (b1 b2 b3 b4 b5 : Int) (F5 F6 : List Int) (A0 : Option Addr) (c0 : Nat) (l : List Int) (w : World) (hC : Kd.C (Kd.int .u8) w A0 l.length l) (hc : l.length ≤ c0) (hl : l.length = 32) (hB : ∀ x ∈ l, 0 ≤ x ∧ x < 256) (e1 : l.getD 1 0 = b1) (e2 : l.getD 2 0 = b2) (e3 : l.getD 3 0 = b3) (e4 : l.getD 4 0 = b4) (e5 : l.getD 5 0 = b5) (hF5 : bitsOf ((l.take 14).drop 6) = F5) (hF6 : bitsOf ((l.take 16).drop 14) = F6) (K : Nat) (U V : List Int) (e1_ e2_ : Int) (hr : cyl_Right.f K b1 b2 b3 b4 b5 F5 F6 = some true) (hU : bitset_Make.f K 8 F5 = some (U, e1_)) (hV : bitset_Make.f K 2 F6 = some (V, e2_)) (lU : U.length = 8) (lV : V.length = 2) (hx : (hdr (⟨b1, b2, b3, b4, b5, F5, F6⟩ : S42) U V) ≠ l) :
    Calls Try.prog 32 #[.slice A0 l.length c0] w fun e w' => e = .returned (.tuple #[.agg #[.int .i64 0, .int .i64 0, .int .i64 0, .int .i64 0, .int .i64 0, .slice none 0 0, .slice none 0 0], .int .i64 3]) ∧ Below w.heap.size w w' := by
  have hu42 := Try.underlying42
  have hu84 := Try.underlying84
  have n1 : ((l.length : Int) != 32) = false := by rw [bne_eq_false_iff_eq]; omega
  have n2 : ((l.length : Int) == 32) = true := by rw [beq_iff_eq]; omega
  have n3 : ((l.length : Int) = 32) = True := eq_true (by omega)
  have n4 : (l.length = 32) = True := eq_true hl
  obtain ⟨ad, rfl, hat⟩ : ∃ ad, A0 = some ad ∧ ∀ j x, l[j]? = some x → w.cell? (ad.add j) = some (.int .u8 x) := by
    obtain ⟨ad, e, _⟩ := Kd.at_int hC (0 : Int) (by omega) (by omega)
    refine ⟨ad, e, fun j x hx => ?_⟩
    have hj : j < l.length := (List.getElem?_eq_some_iff.1 hx).1
    obtain ⟨ad2, e2, h2⟩ := Kd.at_int hC (j : Int) (by omega) (by omega)
    rw [e] at e2
    obtain rfl := Option.some.inj e2
    have h3 : rd l (j : Int) = x := by simp [rd, List.getD_eq_getElem?_getD, hx]
    rw [h3] at h2
    simpa using h2
  have hap : ∀ W, (Instr.arrayAt 84 (.slice (some ad) l.length c0)).run Try.prog W = .ok (.pointer (some ad)) W := fun W => run_arrayAt W 84 5 32 (some ad) l.length c0 Try.underlying84 (by omega)
  have HL := Aside0.mk hl
  have HBY := Aside0.mk hB
  have HAT := Aside0.mk hat
  have HF5 := Aside0.mk hF5
  have HF6 := Aside0.mk hF6
  have E1 := Aside0.mk e1
  have E2 := Aside0.mk e2
  have E3 := Aside0.mk e3
  have E4 := Aside0.mk e4
  have E5 := Aside0.mk e5
  have wb1 : IntKind.i64.wrap b1 = b1 := IntWalk.i64_in _ (by have h_ := hB (l.getD 1 0) (by rw [List.getD_eq_getElem?_getD, List.getElem?_eq_getElem (show 1 < l.length by omega)]; exact List.getElem_mem _); rw [e1] at h_; omega)
  have wb2 : IntKind.i64.wrap b2 = b2 := IntWalk.i64_in _ (by have h_ := hB (l.getD 2 0) (by rw [List.getD_eq_getElem?_getD, List.getElem?_eq_getElem (show 2 < l.length by omega)]; exact List.getElem_mem _); rw [e2] at h_; omega)
  have wb3 : IntKind.i64.wrap b3 = b3 := IntWalk.i64_in _ (by have h_ := hB (l.getD 3 0) (by rw [List.getD_eq_getElem?_getD, List.getElem?_eq_getElem (show 3 < l.length by omega)]; exact List.getElem_mem _); rw [e3] at h_; omega)
  have wb4 : IntKind.i64.wrap b4 = b4 := IntWalk.i64_in _ (by have h_ := hB (l.getD 4 0) (by rw [List.getD_eq_getElem?_getD, List.getElem?_eq_getElem (show 4 < l.length by omega)]; exact List.getElem_mem _); rw [e4] at h_; omega)
  have wb5 : IntKind.i64.wrap b5 = b5 := IntWalk.i64_in _ (by have h_ := hB (l.getD 5 0) (by rw [List.getD_eq_getElem?_getD, List.getElem?_eq_getElem (show 5 < l.length by omega)]; exact List.getElem_mem _); rw [e5] at h_; omega)
  have HR := Aside0.mk hr
  have HU := Aside0.mk hU
  have HV := Aside0.mk hV
  have LU := Aside0.mk lU
  have LV := Aside0.mk lV
  have HLX : Aside0 ((hdr (⟨b1, b2, b3, b4, b5, F5, F6⟩ : S42) U V).length = 32) := ⟨by unfold hdr; rw [List.length_set]; exact h2_len _ lU lV⟩
  have heq : ∀ W, (Op.equalIn 10000 84 (.agg ((hdr (⟨b1, b2, b3, b4, b5, F5, F6⟩ : S42) U V).map (Value.int .u8)).toArray) (.agg (l.map (Value.int .u8)).toArray)).run Try.prog W = .ok false W := fun W => by rw [eq_hd HLX.out hl W, decide_eq_false hx]
  have HEQ := Aside0.mk heq
  clear hr hU hV lU lV hx heq
  clear hl hB hat hF5 hF6 e1 e2 e3 e4 e5 hC hc
  go_enter Try.func32, Try.ntmps32
  go_upto_region 3 with (first | ((with_reducible refine gate_dst (N := 2) rfl ?_); refine box_event ?hg (N := 2) ?hd (cs := #[.int .i64 0, .int .i64 0, .int .i64 0, .int .i64 0, .int .i64 0, .slice none 0 0, .slice none 0 0]) (t := 42) ?hr ?_; (case hd => rfl); (case hg => rfl); (case hr => first | (go_simp; done) | (go_simp; rfl)); intro g2 hg w1 hbox hb; have K2_1 := Aside0.mk hbox; have HB1 := Aside0.mk hb; have P2 := Aside0.mk (show w.heap.size ≤ g2 by omega); have r0 : w1.cell? ⟨g2, 0, none⟩ = some (.int .i64 0) := (blk_cell K2_1.out 0).trans rfl; have r1 : w1.cell? ⟨g2, 1, none⟩ = some (.int .i64 0) := (blk_cell K2_1.out 1).trans rfl; have r2 : w1.cell? ⟨g2, 2, none⟩ = some (.int .i64 0) := (blk_cell K2_1.out 2).trans rfl; have r3 : w1.cell? ⟨g2, 3, none⟩ = some (.int .i64 0) := (blk_cell K2_1.out 3).trans rfl; have r4 : w1.cell? ⟨g2, 4, none⟩ = some (.int .i64 0) := (blk_cell K2_1.out 4).trans rfl; have r5 : w1.cell? ⟨g2, 5, none⟩ = some (.slice none 0 0) := (blk_cell K2_1.out 5).trans rfl; have r6 : w1.cell? ⟨g2, 6, none⟩ = some (.slice none 0 0) := (blk_cell K2_1.out 6).trans rfl; have z0 := blk_frozen K2_1.out 0; have z1 := blk_frozen K2_1.out 1; have z2 := blk_frozen K2_1.out 2; have z3 := blk_frozen K2_1.out 3; have z4 := blk_frozen K2_1.out 4; have z5 := blk_frozen K2_1.out 5; have z6 := blk_frozen K2_1.out 6; clear hb hbox hg))
  clear n1 n2 r0 r1 r2 r3 r4 r5 r6 z0 z1 z2 z3 z4 z5 z6
  go_upto_region 4 with (first | ((with_reducible refine gate_dst (N := 14) rfl ?_); refine wpList_load_hd rfl (.tmp 13) rfl ad rfl HL.out (fun j x hx => pw_cell_below HB1.out (HAT.out j x hx)) ?_) | ((with_reducible refine gate_dst (N := 4) rfl ?_); refine box_event ?hg (N := 4) ?hd (cs := #[.int .u8 0, .int .u8 0, .int .u8 0, .int .u8 0, .int .u8 0, .int .u8 0, .int .u8 0, .int .u8 0, .int .u8 0, .int .u8 0, .int .u8 0, .int .u8 0, .int .u8 0, .int .u8 0, .int .u8 0, .int .u8 0, .int .u8 0, .int .u8 0, .int .u8 0, .int .u8 0, .int .u8 0, .int .u8 0, .int .u8 0, .int .u8 0, .int .u8 0, .int .u8 0, .int .u8 0, .int .u8 0, .int .u8 0, .int .u8 0, .int .u8 0, .int .u8 0]) (t := 84) ?hr ?_; (case hd => rfl); (case hg => rfl); (case hr => first | (go_simp; done) | (go_simp; rfl)); intro g4 hg w2 hbox hb; have K4_2 := Aside0.mk hbox; have K2_2 := Aside0.mk (blk_below K2_1.out hb); have HB2 := Aside0.mk (below_step HB1.out hb); have P4 := Aside0.mk (show w.heap.size ≤ g4 by rw [hg]; exact HB1.out.size); have N24 := Aside0.mk (show g2 ≠ g4 by rw [hg]; exact Nat.ne_of_lt (blk_lt K2_1.out)); clear hb hbox hg) | ((with_reducible refine gate_store (t := 84) (p := 4) rfl ?_); refine wpList_store_row ?hg 84 (.tmp 4) (.tmp 14) ?ho g4 ((l.map (Value.int .u8)).toArray) ?hx ?hy 84 _ K4_2.out ?hi ?hold ?h1 ?_; (case hg => rfl); (case ho => rfl); (case hx => rfl); (case hy => rfl); (case hi => exact (by rw [show ((l.map (Value.int .u8)).toArray).size = 32 by simp [HL.out]]; kernel_rfl)); (case hold => simp [HL.out]); (case h1 => simp [Value.oneCell']); obtain ⟨w3, hw⟩ : ∃ w_, w2.setRow g4 ((l.map (Value.int .u8)).toArray) = w_ := ⟨_, rfl⟩; rw [hw]; have HD3 : Aside0 (Hd w3 g4 l) := ⟨by rw [← hw]; exact row_here K4_2.out _⟩; have K2_3 : Aside0 (w3.heap[g2]? = some (.cells #[.int .i64 0, .int .i64 0, .int .i64 0, .int .i64 0, .int .i64 0, .slice none 0 0, .slice none 0 0] 42 (0, 0))) := ⟨by rw [← hw]; exact (row_far N24.out _).trans K2_2.out⟩; have HB3 : Aside0 (Below w.heap.size w w3) := ⟨by rw [← hw]; exact below_setRow HB2.out P4.out _⟩; clear K4_2 K2_2 HB2; clear hw))
  clear hap
  have q1 : w3.cell? ⟨g4, 1, none⟩ = some (.int .u8 b1) := by rw [← E1.out]; exact HD3.out.cell (by rw [HL.out]; decide)
  have q2 : w3.cell? ⟨g4, 2, none⟩ = some (.int .u8 b2) := by rw [← E2.out]; exact HD3.out.cell (by rw [HL.out]; decide)
  have q3 : w3.cell? ⟨g4, 3, none⟩ = some (.int .u8 b3) := by rw [← E3.out]; exact HD3.out.cell (by rw [HL.out]; decide)
  have q4 : w3.cell? ⟨g4, 4, none⟩ = some (.int .u8 b4) := by rw [← E4.out]; exact HD3.out.cell (by rw [HL.out]; decide)
  have q5 : w3.cell? ⟨g4, 5, none⟩ = some (.int .u8 b5) := by rw [← E5.out]; exact HD3.out.cell (by rw [HL.out]; decide)
  go_upto_region 5 with (first | ((with_reducible refine gate_dst (N := 5) rfl ?_); refine box_event ?hg (N := 5) ?hd (cs := #[.int .i64 0, .int .i64 0, .int .i64 0, .int .i64 0, .int .i64 0, .slice none 0 0, .slice none 0 0]) (t := 42) ?hr ?_; (case hd => rfl); (case hg => rfl); (case hr => first | (go_simp; done) | (go_simp; rfl)); intro g5 hg w4 hbox hb; have K5_4 := Aside0.mk hbox; have K2_4 := Aside0.mk (blk_below K2_3.out hb); have HD4 := Aside0.mk (HD3.out.below hb); have HB4 := Aside0.mk (below_step HB3.out hb); have P5 := Aside0.mk (show w.heap.size ≤ g5 by rw [hg]; exact HB3.out.size); have N25 := Aside0.mk (show g2 ≠ g5 by rw [hg]; exact Nat.ne_of_lt (blk_lt K2_3.out)); have N45 := Aside0.mk (show g4 ≠ g5 by rw [hg]; exact Nat.ne_of_lt HD3.out.lt); clear hb hbox hg) | ((with_reducible refine gate_store (t := 42) (p := 5) rfl ?_); refine wpList_store_row ?hg 42 (.tmp 5) (.tmp 30) ?ho g5 (#[.int .i64 b1, .int .i64 b2, .int .i64 b3, .int .i64 b4, .int .i64 b5, .slice none 0 0, .slice none 0 0]) ?hx ?hy 42 _ K5_4.out ?hi ?hold ?h1 ?_; (case hg => rfl); (case ho => rfl); (case hx => rfl); (case hy => rfl); (case hi => exact (by kernel_rfl : (Try.prog.info? 42).map (·.size) = some 7)); (case hold => rfl); (case h1 => simp [Value.oneCell']); obtain ⟨w5, hw⟩ : ∃ w_, w4.setRow g5 (#[.int .i64 b1, .int .i64 b2, .int .i64 b3, .int .i64 b4, .int .i64 b5, .slice none 0 0, .slice none 0 0]) = w_ := ⟨_, rfl⟩; rw [hw]; have K5_5 : Aside0 (w5.heap[g5]? = some (.cells #[.int .i64 b1, .int .i64 b2, .int .i64 b3, .int .i64 b4, .int .i64 b5, .slice none 0 0, .slice none 0 0] 42 (0, 0))) := ⟨by rw [← hw]; exact row_here K5_4.out _⟩; have HD5 : Aside0 (Hd w5 g4 l) := ⟨by rw [← hw]; exact (row_far N45.out _).trans HD4.out⟩; have K2_5 : Aside0 (w5.heap[g2]? = some (.cells #[.int .i64 0, .int .i64 0, .int .i64 0, .int .i64 0, .int .i64 0, .slice none 0 0, .slice none 0 0] 42 (0, 0))) := ⟨by rw [← hw]; exact (row_far N25.out _).trans K2_4.out⟩; have HB5 : Aside0 (Below w.heap.size w w5) := ⟨by rw [← hw]; exact below_setRow HB4.out P5.out _⟩; clear K5_4 HD4 K2_4 HB4; clear hw))
  clear q1 q2 q3 q4 q5 wb1 wb2 wb3 wb4 wb5
  refine start_ (n := 8) (S := fun w' => True) (ds := []) #[false, false, false, false, false, false, false, false] (by kernel_rfl) rfl rfl trivial (fun hHeld => ?_); refine with_tabW dc_tab5 dc_bits5 (fun HT_ HW_ => ?_)
  refine pure_ (i := 0) (N := some 31) (v := ?_) (a' := ?_) #[true, false, false, false, false, false, false, false] rfl rfl (any_of HT_.out (by kernel_rfl)) (fun _ _ _ h => h) (Or.inl ⟨by rfl, ?_⟩) ?_ ?_
  rotate_left
  · intro w'
    go_simp
    with_reducible rfl
  rotate_left
  · simp only [Act.put, List.setIfInBounds_toArray, List.set_cons_zero, List.set_cons_succ]
    rfl
  refine pure_ (i := 2) (N := some 33) (v := ?_) (a' := ?_) #[true, false, true, false, false, false, false, false] rfl rfl (any_of HT_.out (by kernel_rfl)) (fun _ _ _ h => h) (Or.inl ⟨by rfl, ?_⟩) ?_ ?_
  rotate_left
  · intro w'
    go_simp
    with_reducible rfl
  rotate_left
  · simp only [Act.put, List.setIfInBounds_toArray, List.set_cons_zero, List.set_cons_succ]
    rfl
  refine one_ (i := 1) (N := some 32) #[true, true, true, false, false, false, false, false] rfl rfl (one_of HT_.out (by kernel_rfl)) (by decide) (fun K hK => ?_)
  refine goes_ Try.func65 (by kernel_rfl) rfl #[.slice (some ⟨g4, 6, none⟩) 8 26] (by rfl) rfl rfl (by simp only [List.map_toArray, List.map_cons, List.map_nil]; rfl) ?_
  have hl_ := list_hd (HD5.out.below (below_drew (Below.refl _ _)) : Hd w5.drew g4 l) HL.out HBY.out 6 14 8 26 (by decide) (by decide) (by decide) rfl (by decide)
  rw [HF5.out] at hl_
  refine hl_.mono ?_
  rintro e w6 ⟨AF5, kF5, rfl, hR, hb⟩
  have RF5_6 := Aside0.mk hR
  have HB6 : Aside0 (Below w.heap.size w w6) := ⟨below_step (below_drew HB5.out) hb⟩
  have HD6 : Aside0 (Hd w6 g4 l) := ⟨((HD5.out.below (below_drew (Below.refl _ _)) : Hd w5.drew g4 l)).below hb⟩
  have K2_6 : Aside0 (w6.heap[g2]? = some (.cells #[.int .i64 0, .int .i64 0, .int .i64 0, .int .i64 0, .int .i64 0, .slice none 0 0, .slice none 0 0] 42 (0, 0))) := ⟨blk_below (blk_drew K2_5.out) hb⟩
  have K5_6 : Aside0 (w6.heap[g5]? = some (.cells #[.int .i64 b1, .int .i64 b2, .int .i64 b3, .int .i64 b4, .int .i64 b5, .slice none 0 0, .slice none 0 0] 42 (0, 0))) := ⟨blk_below (blk_drew K5_5.out) hb⟩
  have LT5 : Aside0 (g5 < w5.heap.size) := ⟨blk_lt K5_5.out⟩
  replace RF5_6 : Aside0 ((Kd.int .i64).R 3 w6 w5.heap.size (fun _ => True) (.slice AF5 F5.length kF5) F5) := ⟨Kd.R_lower RF5_6.out (Nat.le_refl _)⟩
  have SZ56 : Aside0 (w5.heap.size ≤ w6.heap.size) := ⟨hb.size⟩
  clear hR hb hl_
  refine ⟨_, rfl, ?_⟩
  refine hK.out _ _ trivial (fun hHeld => ?_)
  clear hK K
  refine norm_ (a' := ?_) ?_ ?_
  rotate_left
  · simp only [Act.put, List.setIfInBounds_toArray, List.set_cons_zero, List.set_cons_succ]
    rfl
  refine pure_ (i := 4) (N := some 35) (v := ?_) (a' := ?_) #[true, true, true, false, true, false, false, false] rfl rfl (any_of HT_.out (by kernel_rfl)) (fun _ _ _ h => h) (Or.inl ⟨by rfl, ?_⟩) ?_ ?_
  rotate_left
  · intro w'
    go_simp
    with_reducible rfl
  rotate_left
  · simp only [Act.put, List.setIfInBounds_toArray, List.set_cons_zero, List.set_cons_succ]
    rfl
  refine one_ (i := 3) (N := some 34) #[true, true, true, true, true, false, false, false] rfl rfl (one_of HT_.out (by kernel_rfl)) (by decide) (fun K hK => ?_)
  refine goes_ Try.func65 (by kernel_rfl) rfl #[.slice (some ⟨g4, 14, none⟩) 2 18] (by rfl) rfl rfl (by simp only [List.map_toArray, List.map_cons, List.map_nil]; rfl) ?_
  have hl_ := list_hd HD6.out HL.out HBY.out 14 16 2 18 (by decide) (by decide) (by decide) rfl (by decide)
  rw [HF6.out] at hl_
  refine hl_.mono ?_
  rintro e w7 ⟨AF6, kF6, rfl, hR, hb⟩
  have RF6_7 := Aside0.mk hR
  have HB7 : Aside0 (Below w.heap.size w w7) := ⟨below_step (HB6.out) hb⟩
  have HD7 : Aside0 (Hd w7 g4 l) := ⟨(HD6.out).below hb⟩
  have K2_7 : Aside0 (w7.heap[g2]? = some (.cells #[.int .i64 0, .int .i64 0, .int .i64 0, .int .i64 0, .int .i64 0, .slice none 0 0, .slice none 0 0] 42 (0, 0))) := ⟨blk_below (K2_6.out) hb⟩
  have K5_7 : Aside0 (w7.heap[g5]? = some (.cells #[.int .i64 b1, .int .i64 b2, .int .i64 b3, .int .i64 b4, .int .i64 b5, .slice none 0 0, .slice none 0 0] 42 (0, 0))) := ⟨blk_below (K5_6.out) hb⟩
  have RF6_7b := Aside0.mk RF6_7.out
  have RF5_7 : Aside0 ((Kd.int .i64).R 3 w7 w5.heap.size (fun k_ => some k_ ≠ (.slice AF6 F6.length kF6 : Value).ownBlock) (.slice AF5 F5.length kF5) F5) := ⟨Kd.R_mono (Kd.R_below (Kd.R_bound RF5_6.out) hb) (fun k hk e => by have h1_ := Kd.R_base RF6_7b.out k e.symm; have h2_ := hk.2.2.1; omega)⟩
  have SZ6 : Aside0 (w5.heap.size ≤ w6.heap.size) := ⟨SZ56.out⟩
  replace RF6_7 : Aside0 ((Kd.int .i64).R 3 w7 w5.heap.size (fun k_ => some k_ ≠ (.slice AF5 F5.length kF5 : Value).ownBlock) (.slice AF6 F6.length kF6) F6) := ⟨Kd.R_mono (Kd.R_lower (Kd.R_bound RF6_7b.out) SZ6.out) (fun k hk e => by have h1_ := ((Kd.R_bound RF5_6.out).1 k e.symm).2.2.1; have h2_ := hk.2.1; omega)⟩
  clear hR hb hl_
  refine ⟨_, rfl, ?_⟩
  refine hK.out _ _ trivial (fun hHeld => ?_)
  clear hK K
  refine norm_ (a' := ?_) ?_ ?_
  rotate_left
  · simp only [Act.put, List.setIfInBounds_toArray, List.set_cons_zero, List.set_cons_succ]
    rfl
  refine one_ (i := 5) (N := none) #[true, true, true, true, true, true, false, false] rfl rfl (one_of HT_.out (by kernel_rfl)) (by decide) (fun K hK => ?_)
  have q5 : w7.cell? ⟨g5, 5, none⟩ = some (.slice none 0 0) := (blk_cell K5_7.out 5).trans rfl
  have z5 := blk_frozen K5_7.out 5
  refine skipD_ (w1 := (w7.setCell ⟨g5, 5, none⟩ (.slice AF5 F5.length kF5))) (by rfl) rfl (by first | (go_simp; done) | (go_simp; rfl)) (fun w8 hw => ?_)
  have K5_8 : Aside0 (w8.heap[g5]? = some (.cells #[.int .i64 b1, .int .i64 b2, .int .i64 b3, .int .i64 b4, .int .i64 b5, .slice AF5 F5.length kF5, .slice none 0 0] 42 (0, 0))) := ⟨by rw [hw]; exact blk_put K5_7.out 5 _ rfl⟩
  have K2_8 : Aside0 (w8.heap[g2]? = some (.cells #[.int .i64 0, .int .i64 0, .int .i64 0, .int .i64 0, .int .i64 0, .slice none 0 0, .slice none 0 0] 42 (0, 0))) := ⟨by rw [hw]; exact blk_far K2_7.out (p := ⟨g5, 5, none⟩) N25.out _⟩
  have HD8 : Aside0 (Hd w8 g4 l) := ⟨by rw [hw]; exact blk_far HD7.out (p := ⟨g5, 5, none⟩) N45.out _⟩
  have HB8 : Aside0 (Below w.heap.size w w8) := ⟨by rw [hw]; exact below_set HB7.out P5.out⟩
  have RF5_8 : Aside0 ((Kd.int .i64).R 3 w8 w5.heap.size (fun k_ => some k_ ≠ (.slice AF6 F6.length kF6 : Value).ownBlock) (.slice AF5 F5.length kF5) F5) := ⟨by rw [hw]; exact Kd.R_mono (Kd.R_far (p := ⟨g5, 5, none⟩) (Kd.R_bound RF5_7.out) (fun k hk e => by have h1_ := hk.2.1; have h2_ := LT5.out; rw [e] at h1_; exact absurd h1_ (by show ¬ w5.heap.size ≤ g5; omega)) _) (fun _ hk => hk.1)⟩
  have RF6_8 : Aside0 ((Kd.int .i64).R 3 w8 w5.heap.size (fun k_ => some k_ ≠ (.slice AF5 F5.length kF5 : Value).ownBlock) (.slice AF6 F6.length kF6) F6) := ⟨by rw [hw]; exact Kd.R_mono (Kd.R_far (p := ⟨g5, 5, none⟩) (Kd.R_bound RF6_7.out) (fun k hk e => by have h1_ := hk.2.1; have h2_ := LT5.out; rw [e] at h1_; exact absurd h1_ (by show ¬ w5.heap.size ≤ g5; omega)) _) (fun _ hk => hk.1)⟩
  clear hw q5 z5
  refine hK.out _ _ trivial (fun hHeld => ?_)
  clear hK K
  refine pure_ (i := 6) (N := some 36) (v := ?_) (a' := ?_) #[true, true, true, true, true, true, true, false] rfl rfl (any_of HT_.out (by kernel_rfl)) (fun _ _ _ h => h) (Or.inl ⟨by rfl, ?_⟩) ?_ ?_
  rotate_left
  · intro w'
    go_simp
    with_reducible rfl
  rotate_left
  · simp only [Act.put, List.setIfInBounds_toArray, List.set_cons_zero, List.set_cons_succ]
    rfl
  refine one_ (i := 7) (N := none) #[true, true, true, true, true, true, true, true] rfl rfl (one_of HT_.out (by kernel_rfl)) (by decide) (fun K hK => ?_)
  have q6 : w8.cell? ⟨g5, 6, none⟩ = some (.slice none 0 0) := (blk_cell K5_8.out 6).trans rfl
  have z6 := blk_frozen K5_8.out 6
  refine skipD_ (w1 := (w8.setCell ⟨g5, 6, none⟩ (.slice AF6 F6.length kF6))) (by rfl) rfl (by first | (go_simp; done) | (go_simp; rfl)) (fun w9 hw => ?_)
  have K5_9 : Aside0 (w9.heap[g5]? = some (.cells #[.int .i64 b1, .int .i64 b2, .int .i64 b3, .int .i64 b4, .int .i64 b5, .slice AF5 F5.length kF5, .slice AF6 F6.length kF6] 42 (0, 0))) := ⟨by rw [hw]; exact blk_put K5_8.out 6 _ rfl⟩
  have K2_9 : Aside0 (w9.heap[g2]? = some (.cells #[.int .i64 0, .int .i64 0, .int .i64 0, .int .i64 0, .int .i64 0, .slice none 0 0, .slice none 0 0] 42 (0, 0))) := ⟨by rw [hw]; exact blk_far K2_8.out (p := ⟨g5, 6, none⟩) N25.out _⟩
  have HD9 : Aside0 (Hd w9 g4 l) := ⟨by rw [hw]; exact blk_far HD8.out (p := ⟨g5, 6, none⟩) N45.out _⟩
  have HB9 : Aside0 (Below w.heap.size w w9) := ⟨by rw [hw]; exact below_set HB8.out P5.out⟩
  have RF5_9 : Aside0 ((Kd.int .i64).R 3 w9 w5.heap.size (fun k_ => some k_ ≠ (.slice AF6 F6.length kF6 : Value).ownBlock) (.slice AF5 F5.length kF5) F5) := ⟨by rw [hw]; exact Kd.R_mono (Kd.R_far (p := ⟨g5, 6, none⟩) (Kd.R_bound RF5_8.out) (fun k hk e => by have h1_ := hk.2.1; have h2_ := LT5.out; rw [e] at h1_; exact absurd h1_ (by show ¬ w5.heap.size ≤ g5; omega)) _) (fun _ hk => hk.1)⟩
  have RF6_9 : Aside0 ((Kd.int .i64).R 3 w9 w5.heap.size (fun k_ => some k_ ≠ (.slice AF5 F5.length kF5 : Value).ownBlock) (.slice AF6 F6.length kF6) F6) := ⟨by rw [hw]; exact Kd.R_mono (Kd.R_far (p := ⟨g5, 6, none⟩) (Kd.R_bound RF6_8.out) (fun k hk e => by have h1_ := hk.2.1; have h2_ := LT5.out; rw [e] at h1_; exact absurd h1_ (by show ¬ w5.heap.size ≤ g5; omega)) _) (fun _ hk => hk.1)⟩
  clear hw q6 z6
  refine hK.out _ _ trivial (fun hHeld => ?_)
  clear hK K
  refine done_ (done_of HT_.out (by kernel_rfl)) ?_
  have q0 : w9.cell? ⟨g5, 0, none⟩ = some (.int .i64 b1) := (blk_cell K5_9.out 0).trans rfl
  have q1 : w9.cell? ⟨g5, 1, none⟩ = some (.int .i64 b2) := (blk_cell K5_9.out 1).trans rfl
  have q2 : w9.cell? ⟨g5, 2, none⟩ = some (.int .i64 b3) := (blk_cell K5_9.out 2).trans rfl
  have q3 : w9.cell? ⟨g5, 3, none⟩ = some (.int .i64 b4) := (blk_cell K5_9.out 3).trans rfl
  have q4 : w9.cell? ⟨g5, 4, none⟩ = some (.int .i64 b5) := (blk_cell K5_9.out 4).trans rfl
  have q5 : w9.cell? ⟨g5, 5, none⟩ = some (.slice AF5 F5.length kF5) := (blk_cell K5_9.out 5).trans rfl
  have q6 : w9.cell? ⟨g5, 6, none⟩ = some (.slice AF6 F6.length kF6) := (blk_cell K5_9.out 6).trans rfl
  go_upto_region 7 with (first | (go_at_call 30; refine (encode_ok ⟨b1, b2, b3, b4, b5, F5, F6⟩ AF5 kF5 AF6 kF6 U V e1_ e2_ K w9 (Kd.R_reads' RF5_9.out).2.2 (Kd.R_reads' RF5_9.out).2.1 (Kd.R_reads' RF6_9.out).2.2 (Kd.R_reads' RF6_9.out).2.1 HR.out HU.out HV.out LU.out LV.out).mono ?_; rintro e w10 ⟨gE, rfl, PE, hE, hb⟩; have HB10 : Aside0 (Below w.heap.size w w10) := ⟨below_step HB9.out hb⟩; have HD10 : Aside0 (Hd w10 g4 l) := ⟨HD9.out.below hb⟩; have K2_10 : Aside0 (w10.heap[g2]? = some (.cells #[.int .i64 0, .int .i64 0, .int .i64 0, .int .i64 0, .int .i64 0, .slice none 0 0, .slice none 0 0] 42 (0, 0))) := ⟨blk_below K2_9.out hb⟩; have K5_10 : Aside0 (w10.heap[g5]? = some (.cells #[.int .i64 b1, .int .i64 b2, .int .i64 b3, .int .i64 b4, .int .i64 b5, .slice AF5 F5.length kF5, .slice AF6 F6.length kF6] 42 (0, 0))) := ⟨blk_below K5_9.out hb⟩; have RF5_10 := Aside0.mk (Kd.R_below RF5_9.out hb); have RF6_10 := Aside0.mk (Kd.R_below RF6_9.out hb); have HE10 : Aside0 (Hd w10 gE (hdr (⟨b1, b2, b3, b4, b5, F5, F6⟩ : S42) U V)) := ⟨hE⟩; clear hb hE PE))
  clear q0 q1 q2 q3 q4 q5 q6
  obtain ⟨X, hX⟩ : ∃ X, (hdr (⟨b1, b2, b3, b4, b5, F5, F6⟩ : S42) U V) = X := ⟨_, rfl⟩
  rw [hX] at HE10 HEQ HLX
  have heq := HEQ.out
  have hap2 : ∀ W, (Instr.arrayAt 84 (.slice (some ⟨gE, 0, none⟩) 32 32)).run Try.prog W = .ok (.pointer (some ⟨gE, 0, none⟩)) W := fun W => run_arrayAt W 84 5 32 _ 32 32 Try.underlying84 (by decide)
  refine start_ (n := 9) (S := fun w' => (∀ j x, (X)[j]? = some x → w'.cell? ((⟨gE, 0, none⟩ : Addr).add j) = some (.int .u8 x)) ∧ (∀ j x, l[j]? = some x → w'.cell? ((⟨g4, 0, none⟩ : Addr).add j) = some (.int .u8 x))) (ds := []) #[false, false, false, false, false, false, false, false, false] (by kernel_rfl) rfl rfl ⟨(HE10.out.below (below_drew (Below.refl _ _)) : Hd w10.drew gE _).at_, (HD10.out.below (below_drew (Below.refl _ _)) : Hd w10.drew g4 _).at_⟩ (fun hHeld => ?_); refine with_tabW dc_tab7 dc_bits7 (fun HT_ HW_ => ?_)
  refine pure_ (i := 0) (N := some 42) (v := ?_) (a' := ?_) #[true, false, false, false, false, false, false, false, false] rfl rfl (any_of HT_.out (by kernel_rfl)) (fun _ _ _ h => h) (Or.inl ⟨by rfl, ?_⟩) ?_ ?_
  rotate_left
  · intro w'
    go_simp
    with_reducible rfl
  rotate_left
  · simp only [Act.put, List.setIfInBounds_toArray, List.set_cons_zero, List.set_cons_succ]
    rfl
  refine pure_ (i := 1) (N := some 43) (v := ?_) (a' := ?_) #[true, true, false, false, false, false, false, false, false] rfl rfl (any_of HT_.out (by kernel_rfl)) (fun _ _ _ h => h) (Or.inl ⟨by rfl, ?_⟩) ?_ ?_
  rotate_left
  · intro w'
    go_simp
    with_reducible rfl
  rotate_left
  · simp only [Act.put, List.setIfInBounds_toArray, List.set_cons_zero, List.set_cons_succ]
    rfl
  refine pure_ (i := 2) (N := some 44) (v := ?_) (a' := ?_) #[true, true, true, false, false, false, false, false, false] rfl rfl (any_of HT_.out (by kernel_rfl)) (fun _ _ _ h => h) (Or.inl ⟨by rfl, ?_⟩) ?_ ?_
  rotate_left
  · intro w'
    go_simp
    with_reducible rfl
  rotate_left
  · simp only [Act.put, List.setIfInBounds_toArray, List.set_cons_zero, List.set_cons_succ]
    rfl
  refine pure_ (i := 3) (N := some 45) (v := ?_) (a' := ?_) #[true, true, true, true, false, false, false, false, false] rfl rfl (any_of HT_.out (by kernel_rfl)) (fun _ _ _ h => h) (Or.inl ⟨by rfl, ?_⟩) ?_ ?_
  rotate_left
  · intro w'
    go_simp
    with_reducible rfl
  rotate_left
  · simp only [Act.put, List.setIfInBounds_toArray, List.set_cons_zero, List.set_cons_succ]
    rfl
  refine pure_ (i := 4) (N := some 46) (v := ?_) (a' := ?_) #[true, true, true, true, true, false, false, false, false] rfl rfl (any_of HT_.out (by kernel_rfl)) (fun _ _ _ h => h) (Or.inl ⟨by rfl, ?_⟩) ?_ ?_
  rotate_left
  · intro w'
    go_simp
    with_reducible rfl
  rotate_left
  · simp only [Act.put, List.setIfInBounds_toArray, List.set_cons_zero, List.set_cons_succ]
    rfl
  refine take_ (i := 5) (N := some 47) (v := .agg ((X).map (Value.int .u8)).toArray) (a' := ?_) #[true, true, true, true, true, true, false, false, false] rfl rfl (take_ofW HT_.out HW_.out (by kernel_rfl)) (fun _ _ _ h => h) (Or.inl ⟨by rfl, ?_⟩) hHeld ?_ ?_
  · rintro w' ⟨s0, s1⟩
    exact exec_load_hd (.tmp 46) (by rfl) (by rfl) HLX.out s0
  rotate_left
  · simp only [Act.put, List.setIfInBounds_toArray, List.set_cons_zero, List.set_cons_succ]
    rfl
  refine take_ (i := 6) (N := some 48) (v := .agg ((l).map (Value.int .u8)).toArray) (a' := ?_) #[true, true, true, true, true, true, true, false, false] rfl rfl (take_ofW HT_.out HW_.out (by kernel_rfl)) (fun _ _ _ h => h) (Or.inl ⟨by rfl, ?_⟩) hHeld ?_ ?_
  · rintro w' ⟨s0, s1⟩
    exact exec_load_hd (.tmp 4) (by rfl) (by rfl) HL.out s1
  rotate_left
  · simp only [Act.put, List.setIfInBounds_toArray, List.set_cons_zero, List.set_cons_succ]
    rfl
  refine pure_ (i := 7) (N := some 49) (v := ?_) (a' := ?_) #[true, true, true, true, true, true, true, true, false] rfl rfl (any_of HT_.out (by kernel_rfl)) (fun _ _ _ h => h) (Or.inl ⟨by rfl, ?_⟩) ?_ ?_
  rotate_left
  · intro w'
    go_simp
    with_reducible rfl
  rotate_left
  · simp only [Act.put, List.setIfInBounds_toArray, List.set_cons_zero, List.set_cons_succ]
    rfl
  refine pure_ (i := 8) (N := some 50) (v := ?_) (a' := ?_) #[true, true, true, true, true, true, true, true, true] rfl rfl (any_of HT_.out (by kernel_rfl)) (fun _ _ _ h => h) (Or.inl ⟨by rfl, ?_⟩) ?_ ?_
  rotate_left
  · intro w'
    go_simp
    with_reducible rfl
  rotate_left
  · simp only [Act.put, List.setIfInBounds_toArray, List.set_cons_zero, List.set_cons_succ]
    rfl
  refine done_ (done_of HT_.out (by kernel_rfl)) ?_
  obtain ⟨w11, hw11⟩ : ∃ w_, w10.drew = w_ := ⟨_, rfl⟩
  have HB11 : Aside0 (Below w.heap.size w w11) := ⟨by rw [← hw11]; exact below_drew HB10.out⟩
  have K2_11 : Aside0 (w11.heap[g2]? = some (.cells #[.int .i64 0, .int .i64 0, .int .i64 0, .int .i64 0, .int .i64 0, .slice none 0 0, .slice none 0 0] 42 (0, 0))) := ⟨by rw [← hw11]; exact blk_drew K2_10.out⟩
  have K5_11 : Aside0 (w11.heap[g5]? = some (.cells #[.int .i64 b1, .int .i64 b2, .int .i64 b3, .int .i64 b4, .int .i64 b5, .slice AF5 F5.length kF5, .slice AF6 F6.length kF6] 42 (0, 0))) := ⟨by rw [← hw11]; exact blk_drew K5_10.out⟩
  have RF5_11 : Aside0 ((Kd.int .i64).R 3 w11 w5.heap.size (fun k_ => some k_ ≠ (.slice AF6 F6.length kF6 : Value).ownBlock) (.slice AF5 F5.length kF5) F5) := ⟨by rw [← hw11]; exact Kd.R_drew RF5_10.out⟩
  have RF6_11 : Aside0 ((Kd.int .i64).R 3 w11 w5.heap.size (fun k_ => some k_ ≠ (.slice AF5 F5.length kF5 : Value).ownBlock) (.slice AF6 F6.length kF6) F6) := ⟨by rw [← hw11]; exact Kd.R_drew RF6_10.out⟩
  rw [hw11]
  clear hw11
  go_wp2_with (first | ((with_reducible refine gate_store (t := 42) (p := 2) rfl ?_); refine wpList_store_row ?hg 42 (.tmp 2) (.tmp 51) ?ho g2 (#[.int .i64 0, .int .i64 0, .int .i64 0, .int .i64 0, .int .i64 0, .slice none 0 0, .slice none 0 0]) ?hx ?hy 42 _ K2_11.out ?hi ?hold ?h1 ?_; (case hg => rfl); (case ho => rfl); (case hx => rfl); (case hy => rfl); (case hi => exact (by kernel_rfl : (Try.prog.info? 42).map (·.size) = some 7)); (case hold => rfl); (case h1 => simp [Value.oneCell']); obtain ⟨w12, hw⟩ : ∃ w_, w11.setRow g2 (#[.int .i64 0, .int .i64 0, .int .i64 0, .int .i64 0, .int .i64 0, .slice none 0 0, .slice none 0 0]) = w_ := ⟨_, rfl⟩; rw [hw]; have K2_12 : Aside0 (w12.heap[g2]? = some (.cells #[.int .i64 0, .int .i64 0, .int .i64 0, .int .i64 0, .int .i64 0, .slice none 0 0, .slice none 0 0] 42 (0, 0))) := ⟨by rw [← hw]; exact row_here K2_11.out _⟩; have HB12 : Aside0 (Below w.heap.size w w12) := ⟨by rw [← hw]; exact below_setRow HB11.out P2.out _⟩; clear hw))
  refine bodyPost_ret (results_list (rs := [.cell 2 42, .tmp 3]) rfl (by simp) (.cell g2 42 #[.int .i64 0, .int .i64 0, .int .i64 0, .int .i64 0, .int .i64 0, .slice none 0 0, .slice none 0 0] (0, 0) _ rfl K2_12.out hu42 rfl (by kernel_rfl) (.tmp .nil))) rfl ?_
  exact ⟨rfl, HB12.out⟩

set_option maxHeartbeats 8000000 in
set_option maxRecDepth 100000 in
theorem decode_ok (b1 b2 b3 b4 b5 : Int) (F5 F6 : List Int) (A0 : Option Addr) (c0 : Nat) (l : List Int) (w : World) (hC : Kd.C (Kd.int .u8) w A0 l.length l) (hc : l.length ≤ c0) (hl : l.length = 32) (hB : ∀ x ∈ l, 0 ≤ x ∧ x < 256) (e1 : l.getD 1 0 = b1) (e2 : l.getD 2 0 = b2) (e3 : l.getD 3 0 = b3) (e4 : l.getD 4 0 = b4) (e5 : l.getD 5 0 = b5) (hF5 : bitsOf ((l.take 14).drop 6) = F5) (hF6 : bitsOf ((l.take 16).drop 14) = F6) (K : Nat) (U V : List Int) (e1_ e2_ : Int) (hr : cyl_Right.f K b1 b2 b3 b4 b5 F5 F6 = some true) (hU : bitset_Make.f K 8 F5 = some (U, e1_)) (hV : bitset_Make.f K 2 F6 = some (V, e2_)) (lU : U.length = 8) (lV : V.length = 2) (hx : (hdr (⟨b1, b2, b3, b4, b5, F5, F6⟩ : S42) U V) = l) :
    Calls Try.prog 32 #[.slice A0 l.length c0] w fun e w' => ∃ v5 v6 : Value, e = .returned (.tuple #[.agg #[.int .i64 b1, .int .i64 b2, .int .i64 b3, .int .i64 b4, .int .i64 b5, v5, v6], .int .i64 0]) ∧ Kd.R (Kd.int .i64) 3 w' w.heap.size (fun k_ => some k_ ≠ (v6 : Value).ownBlock) v5 F5 ∧ Kd.R (Kd.int .i64) 3 w' w.heap.size (fun k_ => some k_ ≠ (v5 : Value).ownBlock) v6 F6 ∧ Below w.heap.size w w' := by
  have hu42 := Try.underlying42
  have hu84 := Try.underlying84
  have n1 : ((l.length : Int) != 32) = false := by rw [bne_eq_false_iff_eq]; omega
  have n2 : ((l.length : Int) == 32) = true := by rw [beq_iff_eq]; omega
  have n3 : ((l.length : Int) = 32) = True := eq_true (by omega)
  have n4 : (l.length = 32) = True := eq_true hl
  obtain ⟨ad, rfl, hat⟩ : ∃ ad, A0 = some ad ∧ ∀ j x, l[j]? = some x → w.cell? (ad.add j) = some (.int .u8 x) := by
    obtain ⟨ad, e, _⟩ := Kd.at_int hC (0 : Int) (by omega) (by omega)
    refine ⟨ad, e, fun j x hx => ?_⟩
    have hj : j < l.length := (List.getElem?_eq_some_iff.1 hx).1
    obtain ⟨ad2, e2, h2⟩ := Kd.at_int hC (j : Int) (by omega) (by omega)
    rw [e] at e2
    obtain rfl := Option.some.inj e2
    have h3 : rd l (j : Int) = x := by simp [rd, List.getD_eq_getElem?_getD, hx]
    rw [h3] at h2
    simpa using h2
  have hap : ∀ W, (Instr.arrayAt 84 (.slice (some ad) l.length c0)).run Try.prog W = .ok (.pointer (some ad)) W := fun W => run_arrayAt W 84 5 32 (some ad) l.length c0 Try.underlying84 (by omega)
  have HL := Aside0.mk hl
  have HBY := Aside0.mk hB
  have HAT := Aside0.mk hat
  have HF5 := Aside0.mk hF5
  have HF6 := Aside0.mk hF6
  have E1 := Aside0.mk e1
  have E2 := Aside0.mk e2
  have E3 := Aside0.mk e3
  have E4 := Aside0.mk e4
  have E5 := Aside0.mk e5
  have wb1 : IntKind.i64.wrap b1 = b1 := IntWalk.i64_in _ (by have h_ := hB (l.getD 1 0) (by rw [List.getD_eq_getElem?_getD, List.getElem?_eq_getElem (show 1 < l.length by omega)]; exact List.getElem_mem _); rw [e1] at h_; omega)
  have wb2 : IntKind.i64.wrap b2 = b2 := IntWalk.i64_in _ (by have h_ := hB (l.getD 2 0) (by rw [List.getD_eq_getElem?_getD, List.getElem?_eq_getElem (show 2 < l.length by omega)]; exact List.getElem_mem _); rw [e2] at h_; omega)
  have wb3 : IntKind.i64.wrap b3 = b3 := IntWalk.i64_in _ (by have h_ := hB (l.getD 3 0) (by rw [List.getD_eq_getElem?_getD, List.getElem?_eq_getElem (show 3 < l.length by omega)]; exact List.getElem_mem _); rw [e3] at h_; omega)
  have wb4 : IntKind.i64.wrap b4 = b4 := IntWalk.i64_in _ (by have h_ := hB (l.getD 4 0) (by rw [List.getD_eq_getElem?_getD, List.getElem?_eq_getElem (show 4 < l.length by omega)]; exact List.getElem_mem _); rw [e4] at h_; omega)
  have wb5 : IntKind.i64.wrap b5 = b5 := IntWalk.i64_in _ (by have h_ := hB (l.getD 5 0) (by rw [List.getD_eq_getElem?_getD, List.getElem?_eq_getElem (show 5 < l.length by omega)]; exact List.getElem_mem _); rw [e5] at h_; omega)
  have HR := Aside0.mk hr
  have HU := Aside0.mk hU
  have HV := Aside0.mk hV
  have LU := Aside0.mk lU
  have LV := Aside0.mk lV
  have HLX := Aside0.mk hl
  have HXL := Aside0.mk hx
  have heq : ∀ W, (Op.equalIn 10000 84 (.agg (l.map (Value.int .u8)).toArray) (.agg (l.map (Value.int .u8)).toArray)).run Try.prog W = .ok true W := fun W => by rw [eq_hd hl hl W, decide_eq_true rfl]
  have HEQ := Aside0.mk heq
  clear hr hU hV lU lV hx heq
  clear hl hB hat hF5 hF6 e1 e2 e3 e4 e5 hC hc
  go_enter Try.func32, Try.ntmps32
  go_upto_region 3 with (first | ((with_reducible refine gate_dst (N := 2) rfl ?_); refine box_event ?hg (N := 2) ?hd (cs := #[.int .i64 0, .int .i64 0, .int .i64 0, .int .i64 0, .int .i64 0, .slice none 0 0, .slice none 0 0]) (t := 42) ?hr ?_; (case hd => rfl); (case hg => rfl); (case hr => first | (go_simp; done) | (go_simp; rfl)); intro g2 hg w1 hbox hb; have K2_1 := Aside0.mk hbox; have HB1 := Aside0.mk hb; have P2 := Aside0.mk (show w.heap.size ≤ g2 by omega); have r0 : w1.cell? ⟨g2, 0, none⟩ = some (.int .i64 0) := (blk_cell K2_1.out 0).trans rfl; have r1 : w1.cell? ⟨g2, 1, none⟩ = some (.int .i64 0) := (blk_cell K2_1.out 1).trans rfl; have r2 : w1.cell? ⟨g2, 2, none⟩ = some (.int .i64 0) := (blk_cell K2_1.out 2).trans rfl; have r3 : w1.cell? ⟨g2, 3, none⟩ = some (.int .i64 0) := (blk_cell K2_1.out 3).trans rfl; have r4 : w1.cell? ⟨g2, 4, none⟩ = some (.int .i64 0) := (blk_cell K2_1.out 4).trans rfl; have r5 : w1.cell? ⟨g2, 5, none⟩ = some (.slice none 0 0) := (blk_cell K2_1.out 5).trans rfl; have r6 : w1.cell? ⟨g2, 6, none⟩ = some (.slice none 0 0) := (blk_cell K2_1.out 6).trans rfl; have z0 := blk_frozen K2_1.out 0; have z1 := blk_frozen K2_1.out 1; have z2 := blk_frozen K2_1.out 2; have z3 := blk_frozen K2_1.out 3; have z4 := blk_frozen K2_1.out 4; have z5 := blk_frozen K2_1.out 5; have z6 := blk_frozen K2_1.out 6; clear hb hbox hg))
  clear n1 n2 r0 r1 r2 r3 r4 r5 r6 z0 z1 z2 z3 z4 z5 z6
  go_upto_region 4 with (first | ((with_reducible refine gate_dst (N := 14) rfl ?_); refine wpList_load_hd rfl (.tmp 13) rfl ad rfl HL.out (fun j x hx => pw_cell_below HB1.out (HAT.out j x hx)) ?_) | ((with_reducible refine gate_dst (N := 4) rfl ?_); refine box_event ?hg (N := 4) ?hd (cs := #[.int .u8 0, .int .u8 0, .int .u8 0, .int .u8 0, .int .u8 0, .int .u8 0, .int .u8 0, .int .u8 0, .int .u8 0, .int .u8 0, .int .u8 0, .int .u8 0, .int .u8 0, .int .u8 0, .int .u8 0, .int .u8 0, .int .u8 0, .int .u8 0, .int .u8 0, .int .u8 0, .int .u8 0, .int .u8 0, .int .u8 0, .int .u8 0, .int .u8 0, .int .u8 0, .int .u8 0, .int .u8 0, .int .u8 0, .int .u8 0, .int .u8 0, .int .u8 0]) (t := 84) ?hr ?_; (case hd => rfl); (case hg => rfl); (case hr => first | (go_simp; done) | (go_simp; rfl)); intro g4 hg w2 hbox hb; have K4_2 := Aside0.mk hbox; have K2_2 := Aside0.mk (blk_below K2_1.out hb); have HB2 := Aside0.mk (below_step HB1.out hb); have P4 := Aside0.mk (show w.heap.size ≤ g4 by rw [hg]; exact HB1.out.size); have N24 := Aside0.mk (show g2 ≠ g4 by rw [hg]; exact Nat.ne_of_lt (blk_lt K2_1.out)); clear hb hbox hg) | ((with_reducible refine gate_store (t := 84) (p := 4) rfl ?_); refine wpList_store_row ?hg 84 (.tmp 4) (.tmp 14) ?ho g4 ((l.map (Value.int .u8)).toArray) ?hx ?hy 84 _ K4_2.out ?hi ?hold ?h1 ?_; (case hg => rfl); (case ho => rfl); (case hx => rfl); (case hy => rfl); (case hi => exact (by rw [show ((l.map (Value.int .u8)).toArray).size = 32 by simp [HL.out]]; kernel_rfl)); (case hold => simp [HL.out]); (case h1 => simp [Value.oneCell']); obtain ⟨w3, hw⟩ : ∃ w_, w2.setRow g4 ((l.map (Value.int .u8)).toArray) = w_ := ⟨_, rfl⟩; rw [hw]; have HD3 : Aside0 (Hd w3 g4 l) := ⟨by rw [← hw]; exact row_here K4_2.out _⟩; have K2_3 : Aside0 (w3.heap[g2]? = some (.cells #[.int .i64 0, .int .i64 0, .int .i64 0, .int .i64 0, .int .i64 0, .slice none 0 0, .slice none 0 0] 42 (0, 0))) := ⟨by rw [← hw]; exact (row_far N24.out _).trans K2_2.out⟩; have HB3 : Aside0 (Below w.heap.size w w3) := ⟨by rw [← hw]; exact below_setRow HB2.out P4.out _⟩; clear K4_2 K2_2 HB2; clear hw))
  clear hap
  have q1 : w3.cell? ⟨g4, 1, none⟩ = some (.int .u8 b1) := by rw [← E1.out]; exact HD3.out.cell (by rw [HL.out]; decide)
  have q2 : w3.cell? ⟨g4, 2, none⟩ = some (.int .u8 b2) := by rw [← E2.out]; exact HD3.out.cell (by rw [HL.out]; decide)
  have q3 : w3.cell? ⟨g4, 3, none⟩ = some (.int .u8 b3) := by rw [← E3.out]; exact HD3.out.cell (by rw [HL.out]; decide)
  have q4 : w3.cell? ⟨g4, 4, none⟩ = some (.int .u8 b4) := by rw [← E4.out]; exact HD3.out.cell (by rw [HL.out]; decide)
  have q5 : w3.cell? ⟨g4, 5, none⟩ = some (.int .u8 b5) := by rw [← E5.out]; exact HD3.out.cell (by rw [HL.out]; decide)
  go_upto_region 5 with (first | ((with_reducible refine gate_dst (N := 5) rfl ?_); refine box_event ?hg (N := 5) ?hd (cs := #[.int .i64 0, .int .i64 0, .int .i64 0, .int .i64 0, .int .i64 0, .slice none 0 0, .slice none 0 0]) (t := 42) ?hr ?_; (case hd => rfl); (case hg => rfl); (case hr => first | (go_simp; done) | (go_simp; rfl)); intro g5 hg w4 hbox hb; have K5_4 := Aside0.mk hbox; have K2_4 := Aside0.mk (blk_below K2_3.out hb); have HD4 := Aside0.mk (HD3.out.below hb); have HB4 := Aside0.mk (below_step HB3.out hb); have P5 := Aside0.mk (show w.heap.size ≤ g5 by rw [hg]; exact HB3.out.size); have N25 := Aside0.mk (show g2 ≠ g5 by rw [hg]; exact Nat.ne_of_lt (blk_lt K2_3.out)); have N45 := Aside0.mk (show g4 ≠ g5 by rw [hg]; exact Nat.ne_of_lt HD3.out.lt); clear hb hbox hg) | ((with_reducible refine gate_store (t := 42) (p := 5) rfl ?_); refine wpList_store_row ?hg 42 (.tmp 5) (.tmp 30) ?ho g5 (#[.int .i64 b1, .int .i64 b2, .int .i64 b3, .int .i64 b4, .int .i64 b5, .slice none 0 0, .slice none 0 0]) ?hx ?hy 42 _ K5_4.out ?hi ?hold ?h1 ?_; (case hg => rfl); (case ho => rfl); (case hx => rfl); (case hy => rfl); (case hi => exact (by kernel_rfl : (Try.prog.info? 42).map (·.size) = some 7)); (case hold => rfl); (case h1 => simp [Value.oneCell']); obtain ⟨w5, hw⟩ : ∃ w_, w4.setRow g5 (#[.int .i64 b1, .int .i64 b2, .int .i64 b3, .int .i64 b4, .int .i64 b5, .slice none 0 0, .slice none 0 0]) = w_ := ⟨_, rfl⟩; rw [hw]; have K5_5 : Aside0 (w5.heap[g5]? = some (.cells #[.int .i64 b1, .int .i64 b2, .int .i64 b3, .int .i64 b4, .int .i64 b5, .slice none 0 0, .slice none 0 0] 42 (0, 0))) := ⟨by rw [← hw]; exact row_here K5_4.out _⟩; have HD5 : Aside0 (Hd w5 g4 l) := ⟨by rw [← hw]; exact (row_far N45.out _).trans HD4.out⟩; have K2_5 : Aside0 (w5.heap[g2]? = some (.cells #[.int .i64 0, .int .i64 0, .int .i64 0, .int .i64 0, .int .i64 0, .slice none 0 0, .slice none 0 0] 42 (0, 0))) := ⟨by rw [← hw]; exact (row_far N25.out _).trans K2_4.out⟩; have HB5 : Aside0 (Below w.heap.size w w5) := ⟨by rw [← hw]; exact below_setRow HB4.out P5.out _⟩; clear K5_4 HD4 K2_4 HB4; clear hw))
  clear q1 q2 q3 q4 q5 wb1 wb2 wb3 wb4 wb5
  refine start_ (n := 8) (S := fun w' => True) (ds := []) #[false, false, false, false, false, false, false, false] (by kernel_rfl) rfl rfl trivial (fun hHeld => ?_); refine with_tabW dc_tab5 dc_bits5 (fun HT_ HW_ => ?_)
  refine pure_ (i := 0) (N := some 31) (v := ?_) (a' := ?_) #[true, false, false, false, false, false, false, false] rfl rfl (any_of HT_.out (by kernel_rfl)) (fun _ _ _ h => h) (Or.inl ⟨by rfl, ?_⟩) ?_ ?_
  rotate_left
  · intro w'
    go_simp
    with_reducible rfl
  rotate_left
  · simp only [Act.put, List.setIfInBounds_toArray, List.set_cons_zero, List.set_cons_succ]
    rfl
  refine pure_ (i := 2) (N := some 33) (v := ?_) (a' := ?_) #[true, false, true, false, false, false, false, false] rfl rfl (any_of HT_.out (by kernel_rfl)) (fun _ _ _ h => h) (Or.inl ⟨by rfl, ?_⟩) ?_ ?_
  rotate_left
  · intro w'
    go_simp
    with_reducible rfl
  rotate_left
  · simp only [Act.put, List.setIfInBounds_toArray, List.set_cons_zero, List.set_cons_succ]
    rfl
  refine one_ (i := 1) (N := some 32) #[true, true, true, false, false, false, false, false] rfl rfl (one_of HT_.out (by kernel_rfl)) (by decide) (fun K hK => ?_)
  refine goes_ Try.func65 (by kernel_rfl) rfl #[.slice (some ⟨g4, 6, none⟩) 8 26] (by rfl) rfl rfl (by simp only [List.map_toArray, List.map_cons, List.map_nil]; rfl) ?_
  have hl_ := list_hd (HD5.out.below (below_drew (Below.refl _ _)) : Hd w5.drew g4 l) HL.out HBY.out 6 14 8 26 (by decide) (by decide) (by decide) rfl (by decide)
  rw [HF5.out] at hl_
  refine hl_.mono ?_
  rintro e w6 ⟨AF5, kF5, rfl, hR, hb⟩
  have RF5_6 := Aside0.mk hR
  have HB6 : Aside0 (Below w.heap.size w w6) := ⟨below_step (below_drew HB5.out) hb⟩
  have HD6 : Aside0 (Hd w6 g4 l) := ⟨((HD5.out.below (below_drew (Below.refl _ _)) : Hd w5.drew g4 l)).below hb⟩
  have K2_6 : Aside0 (w6.heap[g2]? = some (.cells #[.int .i64 0, .int .i64 0, .int .i64 0, .int .i64 0, .int .i64 0, .slice none 0 0, .slice none 0 0] 42 (0, 0))) := ⟨blk_below (blk_drew K2_5.out) hb⟩
  have K5_6 : Aside0 (w6.heap[g5]? = some (.cells #[.int .i64 b1, .int .i64 b2, .int .i64 b3, .int .i64 b4, .int .i64 b5, .slice none 0 0, .slice none 0 0] 42 (0, 0))) := ⟨blk_below (blk_drew K5_5.out) hb⟩
  have LT5 : Aside0 (g5 < w5.heap.size) := ⟨blk_lt K5_5.out⟩
  replace RF5_6 : Aside0 ((Kd.int .i64).R 3 w6 w5.heap.size (fun _ => True) (.slice AF5 F5.length kF5) F5) := ⟨Kd.R_lower RF5_6.out (Nat.le_refl _)⟩
  have SZ56 : Aside0 (w5.heap.size ≤ w6.heap.size) := ⟨hb.size⟩
  clear hR hb hl_
  refine ⟨_, rfl, ?_⟩
  refine hK.out _ _ trivial (fun hHeld => ?_)
  clear hK K
  refine norm_ (a' := ?_) ?_ ?_
  rotate_left
  · simp only [Act.put, List.setIfInBounds_toArray, List.set_cons_zero, List.set_cons_succ]
    rfl
  refine pure_ (i := 4) (N := some 35) (v := ?_) (a' := ?_) #[true, true, true, false, true, false, false, false] rfl rfl (any_of HT_.out (by kernel_rfl)) (fun _ _ _ h => h) (Or.inl ⟨by rfl, ?_⟩) ?_ ?_
  rotate_left
  · intro w'
    go_simp
    with_reducible rfl
  rotate_left
  · simp only [Act.put, List.setIfInBounds_toArray, List.set_cons_zero, List.set_cons_succ]
    rfl
  refine one_ (i := 3) (N := some 34) #[true, true, true, true, true, false, false, false] rfl rfl (one_of HT_.out (by kernel_rfl)) (by decide) (fun K hK => ?_)
  refine goes_ Try.func65 (by kernel_rfl) rfl #[.slice (some ⟨g4, 14, none⟩) 2 18] (by rfl) rfl rfl (by simp only [List.map_toArray, List.map_cons, List.map_nil]; rfl) ?_
  have hl_ := list_hd HD6.out HL.out HBY.out 14 16 2 18 (by decide) (by decide) (by decide) rfl (by decide)
  rw [HF6.out] at hl_
  refine hl_.mono ?_
  rintro e w7 ⟨AF6, kF6, rfl, hR, hb⟩
  have RF6_7 := Aside0.mk hR
  have HB7 : Aside0 (Below w.heap.size w w7) := ⟨below_step (HB6.out) hb⟩
  have HD7 : Aside0 (Hd w7 g4 l) := ⟨(HD6.out).below hb⟩
  have K2_7 : Aside0 (w7.heap[g2]? = some (.cells #[.int .i64 0, .int .i64 0, .int .i64 0, .int .i64 0, .int .i64 0, .slice none 0 0, .slice none 0 0] 42 (0, 0))) := ⟨blk_below (K2_6.out) hb⟩
  have K5_7 : Aside0 (w7.heap[g5]? = some (.cells #[.int .i64 b1, .int .i64 b2, .int .i64 b3, .int .i64 b4, .int .i64 b5, .slice none 0 0, .slice none 0 0] 42 (0, 0))) := ⟨blk_below (K5_6.out) hb⟩
  have RF6_7b := Aside0.mk RF6_7.out
  have RF5_7 : Aside0 ((Kd.int .i64).R 3 w7 w5.heap.size (fun k_ => some k_ ≠ (.slice AF6 F6.length kF6 : Value).ownBlock) (.slice AF5 F5.length kF5) F5) := ⟨Kd.R_mono (Kd.R_below (Kd.R_bound RF5_6.out) hb) (fun k hk e => by have h1_ := Kd.R_base RF6_7b.out k e.symm; have h2_ := hk.2.2.1; omega)⟩
  have SZ6 : Aside0 (w5.heap.size ≤ w6.heap.size) := ⟨SZ56.out⟩
  replace RF6_7 : Aside0 ((Kd.int .i64).R 3 w7 w5.heap.size (fun k_ => some k_ ≠ (.slice AF5 F5.length kF5 : Value).ownBlock) (.slice AF6 F6.length kF6) F6) := ⟨Kd.R_mono (Kd.R_lower (Kd.R_bound RF6_7b.out) SZ6.out) (fun k hk e => by have h1_ := ((Kd.R_bound RF5_6.out).1 k e.symm).2.2.1; have h2_ := hk.2.1; omega)⟩
  clear hR hb hl_
  refine ⟨_, rfl, ?_⟩
  refine hK.out _ _ trivial (fun hHeld => ?_)
  clear hK K
  refine norm_ (a' := ?_) ?_ ?_
  rotate_left
  · simp only [Act.put, List.setIfInBounds_toArray, List.set_cons_zero, List.set_cons_succ]
    rfl
  refine one_ (i := 5) (N := none) #[true, true, true, true, true, true, false, false] rfl rfl (one_of HT_.out (by kernel_rfl)) (by decide) (fun K hK => ?_)
  have q5 : w7.cell? ⟨g5, 5, none⟩ = some (.slice none 0 0) := (blk_cell K5_7.out 5).trans rfl
  have z5 := blk_frozen K5_7.out 5
  refine skipD_ (w1 := (w7.setCell ⟨g5, 5, none⟩ (.slice AF5 F5.length kF5))) (by rfl) rfl (by first | (go_simp; done) | (go_simp; rfl)) (fun w8 hw => ?_)
  have K5_8 : Aside0 (w8.heap[g5]? = some (.cells #[.int .i64 b1, .int .i64 b2, .int .i64 b3, .int .i64 b4, .int .i64 b5, .slice AF5 F5.length kF5, .slice none 0 0] 42 (0, 0))) := ⟨by rw [hw]; exact blk_put K5_7.out 5 _ rfl⟩
  have K2_8 : Aside0 (w8.heap[g2]? = some (.cells #[.int .i64 0, .int .i64 0, .int .i64 0, .int .i64 0, .int .i64 0, .slice none 0 0, .slice none 0 0] 42 (0, 0))) := ⟨by rw [hw]; exact blk_far K2_7.out (p := ⟨g5, 5, none⟩) N25.out _⟩
  have HD8 : Aside0 (Hd w8 g4 l) := ⟨by rw [hw]; exact blk_far HD7.out (p := ⟨g5, 5, none⟩) N45.out _⟩
  have HB8 : Aside0 (Below w.heap.size w w8) := ⟨by rw [hw]; exact below_set HB7.out P5.out⟩
  have RF5_8 : Aside0 ((Kd.int .i64).R 3 w8 w5.heap.size (fun k_ => some k_ ≠ (.slice AF6 F6.length kF6 : Value).ownBlock) (.slice AF5 F5.length kF5) F5) := ⟨by rw [hw]; exact Kd.R_mono (Kd.R_far (p := ⟨g5, 5, none⟩) (Kd.R_bound RF5_7.out) (fun k hk e => by have h1_ := hk.2.1; have h2_ := LT5.out; rw [e] at h1_; exact absurd h1_ (by show ¬ w5.heap.size ≤ g5; omega)) _) (fun _ hk => hk.1)⟩
  have RF6_8 : Aside0 ((Kd.int .i64).R 3 w8 w5.heap.size (fun k_ => some k_ ≠ (.slice AF5 F5.length kF5 : Value).ownBlock) (.slice AF6 F6.length kF6) F6) := ⟨by rw [hw]; exact Kd.R_mono (Kd.R_far (p := ⟨g5, 5, none⟩) (Kd.R_bound RF6_7.out) (fun k hk e => by have h1_ := hk.2.1; have h2_ := LT5.out; rw [e] at h1_; exact absurd h1_ (by show ¬ w5.heap.size ≤ g5; omega)) _) (fun _ hk => hk.1)⟩
  clear hw q5 z5
  refine hK.out _ _ trivial (fun hHeld => ?_)
  clear hK K
  refine pure_ (i := 6) (N := some 36) (v := ?_) (a' := ?_) #[true, true, true, true, true, true, true, false] rfl rfl (any_of HT_.out (by kernel_rfl)) (fun _ _ _ h => h) (Or.inl ⟨by rfl, ?_⟩) ?_ ?_
  rotate_left
  · intro w'
    go_simp
    with_reducible rfl
  rotate_left
  · simp only [Act.put, List.setIfInBounds_toArray, List.set_cons_zero, List.set_cons_succ]
    rfl
  refine one_ (i := 7) (N := none) #[true, true, true, true, true, true, true, true] rfl rfl (one_of HT_.out (by kernel_rfl)) (by decide) (fun K hK => ?_)
  have q6 : w8.cell? ⟨g5, 6, none⟩ = some (.slice none 0 0) := (blk_cell K5_8.out 6).trans rfl
  have z6 := blk_frozen K5_8.out 6
  refine skipD_ (w1 := (w8.setCell ⟨g5, 6, none⟩ (.slice AF6 F6.length kF6))) (by rfl) rfl (by first | (go_simp; done) | (go_simp; rfl)) (fun w9 hw => ?_)
  have K5_9 : Aside0 (w9.heap[g5]? = some (.cells #[.int .i64 b1, .int .i64 b2, .int .i64 b3, .int .i64 b4, .int .i64 b5, .slice AF5 F5.length kF5, .slice AF6 F6.length kF6] 42 (0, 0))) := ⟨by rw [hw]; exact blk_put K5_8.out 6 _ rfl⟩
  have K2_9 : Aside0 (w9.heap[g2]? = some (.cells #[.int .i64 0, .int .i64 0, .int .i64 0, .int .i64 0, .int .i64 0, .slice none 0 0, .slice none 0 0] 42 (0, 0))) := ⟨by rw [hw]; exact blk_far K2_8.out (p := ⟨g5, 6, none⟩) N25.out _⟩
  have HD9 : Aside0 (Hd w9 g4 l) := ⟨by rw [hw]; exact blk_far HD8.out (p := ⟨g5, 6, none⟩) N45.out _⟩
  have HB9 : Aside0 (Below w.heap.size w w9) := ⟨by rw [hw]; exact below_set HB8.out P5.out⟩
  have RF5_9 : Aside0 ((Kd.int .i64).R 3 w9 w5.heap.size (fun k_ => some k_ ≠ (.slice AF6 F6.length kF6 : Value).ownBlock) (.slice AF5 F5.length kF5) F5) := ⟨by rw [hw]; exact Kd.R_mono (Kd.R_far (p := ⟨g5, 6, none⟩) (Kd.R_bound RF5_8.out) (fun k hk e => by have h1_ := hk.2.1; have h2_ := LT5.out; rw [e] at h1_; exact absurd h1_ (by show ¬ w5.heap.size ≤ g5; omega)) _) (fun _ hk => hk.1)⟩
  have RF6_9 : Aside0 ((Kd.int .i64).R 3 w9 w5.heap.size (fun k_ => some k_ ≠ (.slice AF5 F5.length kF5 : Value).ownBlock) (.slice AF6 F6.length kF6) F6) := ⟨by rw [hw]; exact Kd.R_mono (Kd.R_far (p := ⟨g5, 6, none⟩) (Kd.R_bound RF6_8.out) (fun k hk e => by have h1_ := hk.2.1; have h2_ := LT5.out; rw [e] at h1_; exact absurd h1_ (by show ¬ w5.heap.size ≤ g5; omega)) _) (fun _ hk => hk.1)⟩
  clear hw q6 z6
  refine hK.out _ _ trivial (fun hHeld => ?_)
  clear hK K
  refine done_ (done_of HT_.out (by kernel_rfl)) ?_
  have LT2 : Aside0 (g2 < w5.heap.size) := ⟨blk_lt K2_5.out⟩
  have SZ5 : Aside0 (w.heap.size ≤ w5.heap.size) := ⟨HB5.out.size⟩
  have q0 : w9.cell? ⟨g5, 0, none⟩ = some (.int .i64 b1) := (blk_cell K5_9.out 0).trans rfl
  have q1 : w9.cell? ⟨g5, 1, none⟩ = some (.int .i64 b2) := (blk_cell K5_9.out 1).trans rfl
  have q2 : w9.cell? ⟨g5, 2, none⟩ = some (.int .i64 b3) := (blk_cell K5_9.out 2).trans rfl
  have q3 : w9.cell? ⟨g5, 3, none⟩ = some (.int .i64 b4) := (blk_cell K5_9.out 3).trans rfl
  have q4 : w9.cell? ⟨g5, 4, none⟩ = some (.int .i64 b5) := (blk_cell K5_9.out 4).trans rfl
  have q5 : w9.cell? ⟨g5, 5, none⟩ = some (.slice AF5 F5.length kF5) := (blk_cell K5_9.out 5).trans rfl
  have q6 : w9.cell? ⟨g5, 6, none⟩ = some (.slice AF6 F6.length kF6) := (blk_cell K5_9.out 6).trans rfl
  go_upto_region 7 with (first | (go_at_call 30; refine (encode_ok ⟨b1, b2, b3, b4, b5, F5, F6⟩ AF5 kF5 AF6 kF6 U V e1_ e2_ K w9 (Kd.R_reads' RF5_9.out).2.2 (Kd.R_reads' RF5_9.out).2.1 (Kd.R_reads' RF6_9.out).2.2 (Kd.R_reads' RF6_9.out).2.1 HR.out HU.out HV.out LU.out LV.out).mono ?_; rintro e w10 ⟨gE, rfl, PE, hE, hb⟩; have HB10 : Aside0 (Below w.heap.size w w10) := ⟨below_step HB9.out hb⟩; have HD10 : Aside0 (Hd w10 g4 l) := ⟨HD9.out.below hb⟩; have K2_10 : Aside0 (w10.heap[g2]? = some (.cells #[.int .i64 0, .int .i64 0, .int .i64 0, .int .i64 0, .int .i64 0, .slice none 0 0, .slice none 0 0] 42 (0, 0))) := ⟨blk_below K2_9.out hb⟩; have K5_10 : Aside0 (w10.heap[g5]? = some (.cells #[.int .i64 b1, .int .i64 b2, .int .i64 b3, .int .i64 b4, .int .i64 b5, .slice AF5 F5.length kF5, .slice AF6 F6.length kF6] 42 (0, 0))) := ⟨blk_below K5_9.out hb⟩; have RF5_10 := Aside0.mk (Kd.R_below RF5_9.out hb); have RF6_10 := Aside0.mk (Kd.R_below RF6_9.out hb); have HE10 : Aside0 (Hd w10 gE l) := ⟨by rw [HXL.out] at hE; exact hE⟩; clear hb hE PE))
  clear q0 q1 q2 q3 q4 q5 q6
  have heq := HEQ.out
  have hap2 : ∀ W, (Instr.arrayAt 84 (.slice (some ⟨gE, 0, none⟩) 32 32)).run Try.prog W = .ok (.pointer (some ⟨gE, 0, none⟩)) W := fun W => run_arrayAt W 84 5 32 _ 32 32 Try.underlying84 (by decide)
  refine start_ (n := 9) (S := fun w' => (∀ j x, (l)[j]? = some x → w'.cell? ((⟨gE, 0, none⟩ : Addr).add j) = some (.int .u8 x)) ∧ (∀ j x, l[j]? = some x → w'.cell? ((⟨g4, 0, none⟩ : Addr).add j) = some (.int .u8 x))) (ds := []) #[false, false, false, false, false, false, false, false, false] (by kernel_rfl) rfl rfl ⟨(HE10.out.below (below_drew (Below.refl _ _)) : Hd w10.drew gE _).at_, (HD10.out.below (below_drew (Below.refl _ _)) : Hd w10.drew g4 _).at_⟩ (fun hHeld => ?_); refine with_tabW dc_tab7 dc_bits7 (fun HT_ HW_ => ?_)
  refine pure_ (i := 0) (N := some 42) (v := ?_) (a' := ?_) #[true, false, false, false, false, false, false, false, false] rfl rfl (any_of HT_.out (by kernel_rfl)) (fun _ _ _ h => h) (Or.inl ⟨by rfl, ?_⟩) ?_ ?_
  rotate_left
  · intro w'
    go_simp
    with_reducible rfl
  rotate_left
  · simp only [Act.put, List.setIfInBounds_toArray, List.set_cons_zero, List.set_cons_succ]
    rfl
  refine pure_ (i := 1) (N := some 43) (v := ?_) (a' := ?_) #[true, true, false, false, false, false, false, false, false] rfl rfl (any_of HT_.out (by kernel_rfl)) (fun _ _ _ h => h) (Or.inl ⟨by rfl, ?_⟩) ?_ ?_
  rotate_left
  · intro w'
    go_simp
    with_reducible rfl
  rotate_left
  · simp only [Act.put, List.setIfInBounds_toArray, List.set_cons_zero, List.set_cons_succ]
    rfl
  refine pure_ (i := 2) (N := some 44) (v := ?_) (a' := ?_) #[true, true, true, false, false, false, false, false, false] rfl rfl (any_of HT_.out (by kernel_rfl)) (fun _ _ _ h => h) (Or.inl ⟨by rfl, ?_⟩) ?_ ?_
  rotate_left
  · intro w'
    go_simp
    with_reducible rfl
  rotate_left
  · simp only [Act.put, List.setIfInBounds_toArray, List.set_cons_zero, List.set_cons_succ]
    rfl
  refine pure_ (i := 3) (N := some 45) (v := ?_) (a' := ?_) #[true, true, true, true, false, false, false, false, false] rfl rfl (any_of HT_.out (by kernel_rfl)) (fun _ _ _ h => h) (Or.inl ⟨by rfl, ?_⟩) ?_ ?_
  rotate_left
  · intro w'
    go_simp
    with_reducible rfl
  rotate_left
  · simp only [Act.put, List.setIfInBounds_toArray, List.set_cons_zero, List.set_cons_succ]
    rfl
  refine pure_ (i := 4) (N := some 46) (v := ?_) (a' := ?_) #[true, true, true, true, true, false, false, false, false] rfl rfl (any_of HT_.out (by kernel_rfl)) (fun _ _ _ h => h) (Or.inl ⟨by rfl, ?_⟩) ?_ ?_
  rotate_left
  · intro w'
    go_simp
    with_reducible rfl
  rotate_left
  · simp only [Act.put, List.setIfInBounds_toArray, List.set_cons_zero, List.set_cons_succ]
    rfl
  refine take_ (i := 5) (N := some 47) (v := .agg ((l).map (Value.int .u8)).toArray) (a' := ?_) #[true, true, true, true, true, true, false, false, false] rfl rfl (take_ofW HT_.out HW_.out (by kernel_rfl)) (fun _ _ _ h => h) (Or.inl ⟨by rfl, ?_⟩) hHeld ?_ ?_
  · rintro w' ⟨s0, s1⟩
    exact exec_load_hd (.tmp 46) (by rfl) (by rfl) HLX.out s0
  rotate_left
  · simp only [Act.put, List.setIfInBounds_toArray, List.set_cons_zero, List.set_cons_succ]
    rfl
  refine take_ (i := 6) (N := some 48) (v := .agg ((l).map (Value.int .u8)).toArray) (a' := ?_) #[true, true, true, true, true, true, true, false, false] rfl rfl (take_ofW HT_.out HW_.out (by kernel_rfl)) (fun _ _ _ h => h) (Or.inl ⟨by rfl, ?_⟩) hHeld ?_ ?_
  · rintro w' ⟨s0, s1⟩
    exact exec_load_hd (.tmp 4) (by rfl) (by rfl) HL.out s1
  rotate_left
  · simp only [Act.put, List.setIfInBounds_toArray, List.set_cons_zero, List.set_cons_succ]
    rfl
  refine pure_ (i := 7) (N := some 49) (v := ?_) (a' := ?_) #[true, true, true, true, true, true, true, true, false] rfl rfl (any_of HT_.out (by kernel_rfl)) (fun _ _ _ h => h) (Or.inl ⟨by rfl, ?_⟩) ?_ ?_
  rotate_left
  · intro w'
    go_simp
    with_reducible rfl
  rotate_left
  · simp only [Act.put, List.setIfInBounds_toArray, List.set_cons_zero, List.set_cons_succ]
    rfl
  refine pure_ (i := 8) (N := some 50) (v := ?_) (a' := ?_) #[true, true, true, true, true, true, true, true, true] rfl rfl (any_of HT_.out (by kernel_rfl)) (fun _ _ _ h => h) (Or.inl ⟨by rfl, ?_⟩) ?_ ?_
  rotate_left
  · intro w'
    go_simp
    with_reducible rfl
  rotate_left
  · simp only [Act.put, List.setIfInBounds_toArray, List.set_cons_zero, List.set_cons_succ]
    rfl
  refine done_ (done_of HT_.out (by kernel_rfl)) ?_
  obtain ⟨w11, hw11⟩ : ∃ w_, w10.drew = w_ := ⟨_, rfl⟩
  have HB11 : Aside0 (Below w.heap.size w w11) := ⟨by rw [← hw11]; exact below_drew HB10.out⟩
  have K2_11 : Aside0 (w11.heap[g2]? = some (.cells #[.int .i64 0, .int .i64 0, .int .i64 0, .int .i64 0, .int .i64 0, .slice none 0 0, .slice none 0 0] 42 (0, 0))) := ⟨by rw [← hw11]; exact blk_drew K2_10.out⟩
  have K5_11 : Aside0 (w11.heap[g5]? = some (.cells #[.int .i64 b1, .int .i64 b2, .int .i64 b3, .int .i64 b4, .int .i64 b5, .slice AF5 F5.length kF5, .slice AF6 F6.length kF6] 42 (0, 0))) := ⟨by rw [← hw11]; exact blk_drew K5_10.out⟩
  have RF5_11 : Aside0 ((Kd.int .i64).R 3 w11 w5.heap.size (fun k_ => some k_ ≠ (.slice AF6 F6.length kF6 : Value).ownBlock) (.slice AF5 F5.length kF5) F5) := ⟨by rw [← hw11]; exact Kd.R_drew RF5_10.out⟩
  have RF6_11 : Aside0 ((Kd.int .i64).R 3 w11 w5.heap.size (fun k_ => some k_ ≠ (.slice AF5 F5.length kF5 : Value).ownBlock) (.slice AF6 F6.length kF6) F6) := ⟨by rw [← hw11]; exact Kd.R_drew RF6_10.out⟩
  rw [hw11]
  clear hw11
  have q0 : w11.cell? ⟨g5, 0, none⟩ = some (.int .i64 b1) := (blk_cell K5_11.out 0).trans rfl
  have q1 : w11.cell? ⟨g5, 1, none⟩ = some (.int .i64 b2) := (blk_cell K5_11.out 1).trans rfl
  have q2 : w11.cell? ⟨g5, 2, none⟩ = some (.int .i64 b3) := (blk_cell K5_11.out 2).trans rfl
  have q3 : w11.cell? ⟨g5, 3, none⟩ = some (.int .i64 b4) := (blk_cell K5_11.out 3).trans rfl
  have q4 : w11.cell? ⟨g5, 4, none⟩ = some (.int .i64 b5) := (blk_cell K5_11.out 4).trans rfl
  have q5 : w11.cell? ⟨g5, 5, none⟩ = some (.slice AF5 F5.length kF5) := (blk_cell K5_11.out 5).trans rfl
  have q6 : w11.cell? ⟨g5, 6, none⟩ = some (.slice AF6 F6.length kF6) := (blk_cell K5_11.out 6).trans rfl
  go_wp2_with (first | ((with_reducible refine gate_store (t := 42) (p := 2) rfl ?_); refine wpList_store_row ?hg 42 (.tmp 2) (.tmp 52) ?ho g2 (#[.int .i64 b1, .int .i64 b2, .int .i64 b3, .int .i64 b4, .int .i64 b5, .slice AF5 F5.length kF5, .slice AF6 F6.length kF6]) ?hx ?hy 42 _ K2_11.out ?hi ?hold ?h1 ?_; (case hg => rfl); (case ho => rfl); (case hx => rfl); (case hy => rfl); (case hi => exact (by kernel_rfl : (Try.prog.info? 42).map (·.size) = some 7)); (case hold => rfl); (case h1 => simp [Value.oneCell']); obtain ⟨w12, hw⟩ : ∃ w_, w11.setRow g2 (#[.int .i64 b1, .int .i64 b2, .int .i64 b3, .int .i64 b4, .int .i64 b5, .slice AF5 F5.length kF5, .slice AF6 F6.length kF6]) = w_ := ⟨_, rfl⟩; rw [hw]; have K2_12 : Aside0 (w12.heap[g2]? = some (.cells #[.int .i64 b1, .int .i64 b2, .int .i64 b3, .int .i64 b4, .int .i64 b5, .slice AF5 F5.length kF5, .slice AF6 F6.length kF6] 42 (0, 0))) := ⟨by rw [← hw]; exact row_here K2_11.out _⟩; have HB12 : Aside0 (Below w.heap.size w w12) := ⟨by rw [← hw]; exact below_setRow HB11.out P2.out _⟩; have RF5_12 : Aside0 ((Kd.int .i64).R 3 w12 w5.heap.size (fun k_ => some k_ ≠ (.slice AF6 F6.length kF6 : Value).ownBlock) (.slice AF5 F5.length kF5) F5) := ⟨by rw [← hw]; exact Kd.R_mono (Kd.R_step (Kd.R_bound RF5_11.out) (fun k hk _ => row_far (fun e => by have h1_ := hk.2.1; have := LT2.out; rw [e] at h1_; omega) _)) (fun _ hk => hk.1)⟩; have RF6_12 : Aside0 ((Kd.int .i64).R 3 w12 w5.heap.size (fun k_ => some k_ ≠ (.slice AF5 F5.length kF5 : Value).ownBlock) (.slice AF6 F6.length kF6) F6) := ⟨by rw [← hw]; exact Kd.R_mono (Kd.R_step (Kd.R_bound RF6_11.out) (fun k hk _ => row_far (fun e => by have h1_ := hk.2.1; have := LT2.out; rw [e] at h1_; omega) _)) (fun _ hk => hk.1)⟩; clear hw))
  refine bodyPost_ret (results_list (rs := [.cell 2 42, .tmp 3]) rfl (by simp) (.cell g2 42 #[.int .i64 b1, .int .i64 b2, .int .i64 b3, .int .i64 b4, .int .i64 b5, .slice AF5 F5.length kF5, .slice AF6 F6.length kF6] (0, 0) _ rfl K2_12.out hu42 rfl (by exact (by kernel_rfl : (Try.prog.info? 42).map (·.size) = some 7)) (.tmp .nil))) rfl ?_
  exact ⟨_, _, rfl, Kd.R_lower RF5_12.out SZ5.out, Kd.R_lower RF6_12.out SZ5.out, HB12.out⟩

end Go.Proofs.Ytehjmmedghcndaa.PG
