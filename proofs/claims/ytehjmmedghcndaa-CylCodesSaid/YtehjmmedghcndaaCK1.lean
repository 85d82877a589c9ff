import Derived.Test.YtehjmmedghcndaaCK0
/-! A group's bytes: cyl.Encode, walked. -/
namespace Go.Proofs.Ytehjmmedghcndaa.PG
open Go.RowKit Go.Proofs.YtehjmmedghcndaaW.PrintWords Go.Proofs.YtehjmmedghcndaaW.PrintLast Go.Proofs.YtehjmmedghcndaaW.PrintMore
theorem row_here {w : World} {g : Nat} {old : Array Value} {t : TypeId} (h : w.heap[g]? = some (.cells old t (0, 0))) (cs : Array Value) : (w.setRow g cs).heap[g]? = some (.cells cs t (0, 0)) := by
  simp [World.setRow, Array.getElem?_modify, h]
theorem row_far {w : World} {g k : Nat} (h : k ≠ g) (cs : Array Value) : (w.setRow g cs).heap[k]? = w.heap[k]? := setRow_other w g k cs h
/-- A copy into a block of bytes. -/
theorem copy_hd {P : Program} {w : World} {ops : Array Oper} {rest : List Oper} {o : Oper} {a : Act} {Q : Exit → Act → World → Prop} (hgd : o.guard = none) (d s : Operand) (dT sT : TypeId)
    (ho : o.op = .call { callee := .builtin .copy, args := #[d, s], argTypes := #[dT, sT] }) (elem : TypeId) (hu : P.underlying dT = some (.slice elem)) (hsz : (P.info? elem).map (·.size) = some 1)
    (g off dLen dCap : Nat) (A : Option Addr) (sCap : Nat) (X H : List Int) (hd : a.eval d = .slice (some ⟨g, off, none⟩) dLen dCap) (hs : a.eval s = .slice A X.length sCap) (hX : 0 < X.length) (hXd : X.length ≤ dLen)
    (hH : Hd w g H) (hC : Kd.C (Kd.int .u8) w A X.length X) (hfit : off + X.length ≤ H.length) (B : Nat) (w0 : World) (hb : Below B w0 w) (hBg : B ≤ g)
    (h : ∀ w', Aside0 (Hd w' g (H.take off ++ (X ++ H.drop (off + X.length)))) → Aside0 (Below B w0 w') → Aside0 (∀ k, k ≠ g → w'.heap[k]? = w.heap[k]?) → wpList P ops Q rest (a.put o.dst (goInt X.length)) w') : wpList P ops Q (o :: rest) a w := by
  obtain ⟨ad, rfl, hat⟩ : ∃ ad, A = some ad ∧ ∀ j v, (X.map (Value.int .u8))[j]? = some v → w.cell? (ad.add j) = some v := by
    obtain ⟨ad, e, _⟩ := Kd.at_int hC (0 : Int) (by omega) (by omega)
    refine ⟨ad, e, fun j v hv => ?_⟩
    rw [List.getElem?_map, Option.map_eq_some_iff] at hv
    obtain ⟨x, hx, rfl⟩ := hv
    have hj : j < X.length := (List.getElem?_eq_some_iff.1 hx).1
    obtain ⟨ad2, e2, h2⟩ := Kd.at_int hC (j : Int) (by omega) (by omega)
    rw [e] at e2
    obtain rfl := Option.some.inj e2
    have h3 : rd X (j : Int) = x := by simp [rd, List.getD_eq_getElem?_getD, hx]
    rw [h3] at h2
    simpa using h2
  refine wpList_copy_own hgd d s dT sT ho elem hu hsz g off dLen dCap ad X.length sCap hd hs _ 84 hH (X.map (Value.int .u8)) (by rw [List.length_map]; exact (Nat.min_eq_left hXd).symm) hat (by simp; omega) (fun v hv => by obtain ⟨x, _, rfl⟩ := List.mem_map.1 hv; rfl) ?_
  have e : ((H.map (Value.int .u8)).toArray.toList.take off ++ (X.map (Value.int .u8) ++ (H.map (Value.int .u8)).toArray.toList.drop (off + (X.map (Value.int .u8)).length))).toArray = ((H.take off ++ (X ++ H.drop (off + X.length))).map (Value.int .u8)).toArray := by simp
  rw [e, List.length_map]
  exact h _ ⟨row_here hH _⟩ ⟨below_setRow hb hBg _⟩ ⟨fun k hk => row_far hk _⟩
theorem Hd.set {w : World} {g : Nat} {H : List Int} (h : Hd w g H) (j : Nat) (x : Int) : Hd (w.setCell ⟨g, j, none⟩ (.int .u8 x)) g (H.set j x) := by
  refine blk_put h j _ ?_
  simp [List.map_set]
theorem Hd.lt {w : World} {g : Nat} {H : List Int} (h : Hd w g H) : g < w.heap.size := blk_lt h
def h2 (y : S42) (U V : List Int) : List Int := [67, y.f0 % 256, y.f1 % 256, y.f2 % 256, y.f3 % 256, y.f4 % 256] ++ U ++ V ++ List.replicate 16 0
def hdr (y : S42) (U V : List Int) : List Int := (h2 y U V).set 31 (sumN (h2 y U V) 31)
theorem h2_len (y : S42) {U V : List Int} (lU : U.length = 8) (lV : V.length = 2) : (h2 y U V).length = 32 := by simp [h2, lU, lV]
theorem cp1 (y : S42) {U : List Int} (lU : U.length = 8) : ([67, y.f0 % 256, y.f1 % 256, y.f2 % 256, y.f3 % 256, y.f4 % 256, 0, 0, 0, 0, 0, 0, 0, 0, 0, 0, 0, 0, 0, 0, 0, 0, 0, 0, 0, 0, 0, 0, 0, 0, 0, 0]).take 6 ++ (U ++ ([67, y.f0 % 256, y.f1 % 256, y.f2 % 256, y.f3 % 256, y.f4 % 256, 0, 0, 0, 0, 0, 0, 0, 0, 0, 0, 0, 0, 0, 0, 0, 0, 0, 0, 0, 0, 0, 0, 0, 0, 0, 0]).drop (6 + U.length)) = [67, y.f0 % 256, y.f1 % 256, y.f2 % 256, y.f3 % 256, y.f4 % 256] ++ U ++ List.replicate 18 0 := by
  rw [lU, List.append_assoc]
  rfl
theorem cp2 (y : S42) {U V : List Int} (lU : U.length = 8) (lV : V.length = 2) : ([67, y.f0 % 256, y.f1 % 256, y.f2 % 256, y.f3 % 256, y.f4 % 256] ++ U ++ List.replicate 18 0).take 14 ++ (V ++ ([67, y.f0 % 256, y.f1 % 256, y.f2 % 256, y.f3 % 256, y.f4 % 256] ++ U ++ List.replicate 18 0).drop (14 + V.length)) = h2 y U V := by
  have e : ([67, y.f0 % 256, y.f1 % 256, y.f2 % 256, y.f3 % 256, y.f4 % 256] ++ U).length = 14 := by simp [lU]
  rw [lV, List.take_left' e, show 14 + 2 = ([67, y.f0 % 256, y.f1 % 256, y.f2 % 256, y.f3 % 256, y.f4 % 256] ++ U).length + 2 by rw [e], List.drop_append]
  unfold h2
  rw [List.append_assoc (_ ++ U)]
  simp [List.replicate]

set_option maxHeartbeats 8000000 in
set_option maxRecDepth 100000 in
theorem encode_ok (y : S42) (A5 : Option Addr) (c5 : Nat) (A6 : Option Addr) (c6 : Nat) (U V : List Int) (e1 e2 : Int) (K : Nat) (w : World) (h5 : Kd.C (Kd.int .i64) w A5 y.f5.length y.f5) (k5 : y.f5.length ≤ c5) (h6 : Kd.C (Kd.int .i64) w A6 y.f6.length y.f6) (k6 : y.f6.length ≤ c6)
    (hr : cyl_Right.f K y.f0 y.f1 y.f2 y.f3 y.f4 y.f5 y.f6 = some true) (hU : bitset_Make.f K 8 y.f5 = some (U, e1)) (hV : bitset_Make.f K 2 y.f6 = some (V, e2)) (lU : U.length = 8) (lV : V.length = 2) :
    Calls Try.prog 30 #[.agg #[.int .i64 y.f0, .int .i64 y.f1, .int .i64 y.f2, .int .i64 y.f3, .int .i64 y.f4, .slice A5 y.f5.length c5, .slice A6 y.f6.length c6]] w fun e w' => ∃ g, e = .returned (.tuple #[.slice (some ⟨g, 0, none⟩) 32 32, .int .i64 0]) ∧ w.heap.size ≤ g ∧ Hd w' g (hdr y U V) ∧ Below w.heap.size w w' := by
  have H5 := Aside0.mk h5
  have L5 := Aside0.mk k5
  have H6 := Aside0.mk h6
  have L6 := Aside0.mk k6
  have HR := Aside0.mk hr
  have HU := Aside0.mk hU
  have HV := Aside0.mk hV
  have LU := Aside0.mk lU
  have LV := Aside0.mk lV
  clear h5 k5 h6 k6 hr hU hV lU lV
  have hu42 := Try.underlying42
  have hu84 := Try.underlying84
  go_enter Try.func30, Try.ntmps30
  go_upto_region 3 with (first | ((with_reducible refine gate_dst (N := 1) rfl ?_); refine box_event ?hg (N := 1) ?hd (cs := #[.int .i64 y.f0, .int .i64 y.f1, .int .i64 y.f2, .int .i64 y.f3, .int .i64 y.f4, .slice A5 y.f5.length c5, .slice A6 y.f6.length c6]) (t := 42) ?hr ?_; (case hd => rfl); (case hg => rfl); (case hr => first | (go_simp; done) | (go_simp; rfl)); intro g1 hg w1 hbox hb; have K1_1 := Aside0.mk hbox; have HB1 := Aside0.mk hb; have P1 := Aside0.mk (show w.heap.size ≤ g1 by omega); have a0 : w1.cell? ⟨g1, 0, none⟩ = some (.int .i64 y.f0) := (blk_cell K1_1.out 0).trans rfl; have a1 : w1.cell? ⟨g1, 1, none⟩ = some (.int .i64 y.f1) := (blk_cell K1_1.out 1).trans rfl; have a2 : w1.cell? ⟨g1, 2, none⟩ = some (.int .i64 y.f2) := (blk_cell K1_1.out 2).trans rfl; have a3 : w1.cell? ⟨g1, 3, none⟩ = some (.int .i64 y.f3) := (blk_cell K1_1.out 3).trans rfl; have a4 : w1.cell? ⟨g1, 4, none⟩ = some (.int .i64 y.f4) := (blk_cell K1_1.out 4).trans rfl; have a5 : w1.cell? ⟨g1, 5, none⟩ = some (.slice A5 y.f5.length c5) := (blk_cell K1_1.out 5).trans rfl; have a6 : w1.cell? ⟨g1, 6, none⟩ = some (.slice A6 y.f6.length c6) := (blk_cell K1_1.out 6).trans rfl; clear hb hbox hg) | (go_at_call 38; refine (cyl_Right.calls K y.f0 y.f1 y.f2 y.f3 y.f4 A5 c5 y.f5 A6 c6 y.f6 true w1 (Kd.C_below H5.out HB1.out) L5.out (Kd.C_below H6.out HB1.out) L6.out HR.out).mono ?_; rintro e w2 ⟨rfl, hb⟩; have HB2 := Aside0.mk (below_step HB1.out hb); have K1_2 := Aside0.mk (blk_below K1_1.out hb); clear hb))
  have q0 : w2.cell? ⟨g1, 0, none⟩ = some (.int .i64 y.f0) := (blk_cell K1_2.out 0).trans rfl
  have q1 : w2.cell? ⟨g1, 1, none⟩ = some (.int .i64 y.f1) := (blk_cell K1_2.out 1).trans rfl
  have q2 : w2.cell? ⟨g1, 2, none⟩ = some (.int .i64 y.f2) := (blk_cell K1_2.out 2).trans rfl
  have q3 : w2.cell? ⟨g1, 3, none⟩ = some (.int .i64 y.f3) := (blk_cell K1_2.out 3).trans rfl
  have q4 : w2.cell? ⟨g1, 4, none⟩ = some (.int .i64 y.f4) := (blk_cell K1_2.out 4).trans rfl
  have q5 : w2.cell? ⟨g1, 5, none⟩ = some (.slice A5 y.f5.length c5) := (blk_cell K1_2.out 5).trans rfl
  have q6 : w2.cell? ⟨g1, 6, none⟩ = some (.slice A6 y.f6.length c6) := (blk_cell K1_2.out 6).trans rfl
  go_upto_region 4 with (first | ((with_reducible refine gate_dst (N := 4) rfl ?_); refine box_event ?hg (N := 4) ?hd (cs := #[.int .u8 0, .int .u8 0, .int .u8 0, .int .u8 0, .int .u8 0, .int .u8 0, .int .u8 0, .int .u8 0, .int .u8 0, .int .u8 0, .int .u8 0, .int .u8 0, .int .u8 0, .int .u8 0, .int .u8 0, .int .u8 0, .int .u8 0, .int .u8 0, .int .u8 0, .int .u8 0, .int .u8 0, .int .u8 0, .int .u8 0, .int .u8 0, .int .u8 0, .int .u8 0, .int .u8 0, .int .u8 0, .int .u8 0, .int .u8 0, .int .u8 0, .int .u8 0]) (t := 84) ?hr ?_; (case hd => rfl); (case hg => rfl); (case hr => first | (go_simp; done) | (go_simp; rfl)); intro g4 hg w3 hbox hb; have K4_3 := Aside0.mk hbox; have K1_3 := Aside0.mk (blk_below K1_2.out hb); have HB3 := Aside0.mk (below_step HB2.out hb); have P4 := Aside0.mk (show w.heap.size ≤ g4 by rw [hg]; exact HB2.out.size); have N14 := Aside0.mk (show g1 ≠ g4 by rw [hg]; exact Nat.ne_of_lt (blk_lt K1_2.out)); clear hb hbox hg) | ((with_reducible refine gate_store (t := 84) (p := 4) rfl ?_); refine wpList_store_row ?hg 84 (.tmp 4) (.tmp 27) ?ho g4 (([67, y.f0 % 256, y.f1 % 256, y.f2 % 256, y.f3 % 256, y.f4 % 256, 0, 0, 0, 0, 0, 0, 0, 0, 0, 0, 0, 0, 0, 0, 0, 0, 0, 0, 0, 0, 0, 0, 0, 0, 0, 0]).map (Value.int .u8)).toArray ?hx ?hy 84 _ K4_3.out ?hi ?hold ?h1 ?_; (case hg => rfl); (case ho => rfl); (case hx => rfl); (case hy => rfl); (case hi => exact (by kernel_rfl : (Try.prog.info? 84).map (·.size) = some 32)); (case hold => rfl); (case h1 => simp [Value.oneCell']); obtain ⟨w4, hw⟩ : ∃ w_, w3.setRow g4 (([67, y.f0 % 256, y.f1 % 256, y.f2 % 256, y.f3 % 256, y.f4 % 256, 0, 0, 0, 0, 0, 0, 0, 0, 0, 0, 0, 0, 0, 0, 0, 0, 0, 0, 0, 0, 0, 0, 0, 0, 0, 0]).map (Value.int .u8)).toArray = w_ := ⟨_, rfl⟩; rw [hw]; have HD4 : Aside0 (Hd w4 g4 [67, y.f0 % 256, y.f1 % 256, y.f2 % 256, y.f3 % 256, y.f4 % 256, 0, 0, 0, 0, 0, 0, 0, 0, 0, 0, 0, 0, 0, 0, 0, 0, 0, 0, 0, 0, 0, 0, 0, 0, 0, 0]) := ⟨by rw [← hw]; exact row_here K4_3.out _⟩; have K1_4 : Aside0 (w4.heap[g1]? = some (.cells #[.int .i64 y.f0, .int .i64 y.f1, .int .i64 y.f2, .int .i64 y.f3, .int .i64 y.f4, .slice A5 y.f5.length c5, .slice A6 y.f6.length c6] 42 (0, 0))) := ⟨by rw [← hw]; exact (row_far N14.out _).trans K1_3.out⟩; have HB4 : Aside0 (Below w.heap.size w w4) := ⟨by rw [← hw]; exact below_setRow HB3.out P4.out _⟩; clear hw K4_3 K1_3 HB3))
  have q5 : w4.cell? ⟨g1, 5, none⟩ = some (.slice A5 y.f5.length c5) := (blk_cell K1_4.out 5).trans rfl
  go_upto_region 5 with (first | (go_at_call 63; refine (bitset_Make.calls K 8 A5 c5 y.f5 U e1 w4 (Kd.C_below H5.out HB4.out) L5.out HU.out).mono ?_; rintro e w5 ⟨vU, rfl, hU, hb⟩; obtain ⟨AU, cU, rfl⟩ := Kd.R_slice hU; have HU_5 := Aside0.mk hU; have HB5 := Aside0.mk (below_step HB4.out hb); have K1_5 := Aside0.mk (blk_below K1_4.out hb); have HD5 := Aside0.mk (HD4.out.below hb); clear hb hU))
  have q6 : w5.cell? ⟨g1, 6, none⟩ = some (.slice A6 y.f6.length c6) := (blk_cell K1_5.out 6).trans rfl
  go_upto_region 6 with (first | (go_at_call 63; refine (bitset_Make.calls K 2 A6 c6 y.f6 V e2 w5 (Kd.C_below H6.out HB5.out) L6.out HV.out).mono ?_; rintro e w6 ⟨vV, rfl, hV, hb⟩; obtain ⟨AV, cV, rfl⟩ := Kd.R_slice hV; have HV_6 := Aside0.mk hV; have HU_6 := Aside0.mk (Kd.R_below HU_5.out hb); have HB6 := Aside0.mk (below_step HB5.out hb); have HD6 := Aside0.mk (HD5.out.below hb); clear hb hV))

  clear q6 K1_5
  go_upto_region 7 with (first | ((with_reducible refine gate_dst (N := 42) rfl ?_); refine copy_hd rfl (.tmp 40) (.tmp 41) 35 35 rfl 5 Try.underlying35 (by kernel_rfl) g4 6 26 26 AU cU U ([67, y.f0 % 256, y.f1 % 256, y.f2 % 256, y.f3 % 256, y.f4 % 256, 0, 0, 0, 0, 0, 0, 0, 0, 0, 0, 0, 0, 0, 0, 0, 0, 0, 0, 0, 0, 0, 0, 0, 0, 0, 0]) rfl rfl (by rw [LU.out]; decide) (by rw [LU.out]; decide) HD6.out (Kd.R_reads' HU_6.out).2.2 (by rw [LU.out]; exact Nat.le_of_ble_eq_true rfl) w.heap.size w HB6.out P4.out ?_; intro w7 hd_ HB7 FF7; have HD7 := Aside0.mk ((fun h_ => by rw [cp1 y LU.out] at h_; exact h_ : Hd w7 g4 _ → Hd w7 g4 ([67, y.f0 % 256, y.f1 % 256, y.f2 % 256, y.f3 % 256, y.f4 % 256] ++ U ++ List.replicate 18 0)) hd_.out); have HV_7 := Aside0.mk (Kd.R_mono (Kd.R_step (Kd.R_bound HV_6.out) (fun k hk _ => FF7.out k (by have := hk.2.1; have := HD5.out.lt; omega))) (fun _ _ => trivial) : (Kd.int .u8).R 5 w7 w5.heap.size (fun _ => True) (.slice AV V.length cV) V); clear hd_))
  go_upto_region 8 with (first | ((with_reducible refine gate_dst (N := 45) rfl ?_); refine copy_hd rfl (.tmp 43) (.tmp 44) 35 35 rfl 5 Try.underlying35 (by kernel_rfl) g4 14 18 18 AV cV V ([67, y.f0 % 256, y.f1 % 256, y.f2 % 256, y.f3 % 256, y.f4 % 256] ++ U ++ List.replicate 18 0) rfl rfl (by rw [LV.out]; decide) (by rw [LV.out]; decide) HD7.out (Kd.R_reads' HV_7.out).2.2 (by simp [LU.out, LV.out]) w.heap.size w HB7.out P4.out ?_; intro w8 hd_ HB8 FF8; have HD8 := Aside0.mk ((fun h_ => by rw [cp2 y LU.out LV.out] at h_; exact h_ : Hd w8 g4 _ → Hd w8 g4 (h2 y U V)) hd_.out);  clear hd_))
  go_upto_region 9 with (first | (go_at_call 64; refine (sum_calls g4 (h2 y U V) w8 HD8.out (h2_len y LU.out LV.out)).mono ?_; rintro e w9 ⟨rfl, hb⟩; have HB9 := Aside0.mk (below_step HB8.out hb); have HD9 := Aside0.mk (HD8.out.below hb); have q31 := HD9.out.cell (k := 31) (by rw [h2_len y LU.out LV.out]; decide); have z31 : w9.frozen? ⟨g4, 31, none⟩ = false := blk_frozen HD9.out 31; clear hb) | ((with_reducible refine gate_store (t := 5) (p := 47) rfl ?_); refine store_event (t := 5) (p := 47) (v := ?vo_w10) (w1 := (w9.setCell ⟨g4, 31, none⟩ (.int .u8 (sumN (h2 y U V) 31)))) ?hg ?ho ?hn ?hr ?_; (case ho => rfl); (case hg => rfl); (case hn => rfl); (case hr => first | (go_simp; done) | (go_simp; rfl)); intro w10 hw; have HD10 : Aside0 (Hd w10 g4 (hdr y U V)) := ⟨by rw [hw]; exact HD9.out.set 31 _⟩; have HB10 : Aside0 (Below w.heap.size w w10) := ⟨by rw [hw]; exact below_set HB9.out P4.out⟩; clear hw))
  go_wp2
  go_ret2
  exact ⟨g4, rfl, P4.out, HD10.out, HB10.out⟩
set_option maxHeartbeats 8000000 in
set_option maxRecDepth 100000 in
theorem encode_bad (y : S42) (A5 : Option Addr) (c5 : Nat) (A6 : Option Addr) (c6 : Nat) (K : Nat) (w : World) (h5 : Kd.C (Kd.int .i64) w A5 y.f5.length y.f5) (k5 : y.f5.length ≤ c5) (h6 : Kd.C (Kd.int .i64) w A6 y.f6.length y.f6) (k6 : y.f6.length ≤ c6)
    (hr : cyl_Right.f K y.f0 y.f1 y.f2 y.f3 y.f4 y.f5 y.f6 = some false) :
    Calls Try.prog 30 #[.agg #[.int .i64 y.f0, .int .i64 y.f1, .int .i64 y.f2, .int .i64 y.f3, .int .i64 y.f4, .slice A5 y.f5.length c5, .slice A6 y.f6.length c6]] w fun e w' => e = .returned (.tuple #[.slice none 0 0, .int .i64 3]) ∧ Below w.heap.size w w' := by
  have H5 := Aside0.mk h5
  have L5 := Aside0.mk k5
  have H6 := Aside0.mk h6
  have L6 := Aside0.mk k6
  have HR := Aside0.mk hr
  clear h5 k5 h6 k6 hr
  have hu42 := Try.underlying42
  go_enter Try.func30, Try.ntmps30
  go_wp2_with (first | ((with_reducible refine gate_dst (N := 1) rfl ?_); refine box_event ?hg (N := 1) ?hd (cs := #[.int .i64 y.f0, .int .i64 y.f1, .int .i64 y.f2, .int .i64 y.f3, .int .i64 y.f4, .slice A5 y.f5.length c5, .slice A6 y.f6.length c6]) (t := 42) ?hr ?_; (case hd => rfl); (case hg => rfl); (case hr => first | (go_simp; done) | (go_simp; rfl)); intro g1 hg w1 hbox hb; have K1_1 := Aside0.mk hbox; have HB1 := Aside0.mk hb; have P1 := Aside0.mk (show w.heap.size ≤ g1 by omega); have a0 : w1.cell? ⟨g1, 0, none⟩ = some (.int .i64 y.f0) := (blk_cell K1_1.out 0).trans rfl; have a1 : w1.cell? ⟨g1, 1, none⟩ = some (.int .i64 y.f1) := (blk_cell K1_1.out 1).trans rfl; have a2 : w1.cell? ⟨g1, 2, none⟩ = some (.int .i64 y.f2) := (blk_cell K1_1.out 2).trans rfl; have a3 : w1.cell? ⟨g1, 3, none⟩ = some (.int .i64 y.f3) := (blk_cell K1_1.out 3).trans rfl; have a4 : w1.cell? ⟨g1, 4, none⟩ = some (.int .i64 y.f4) := (blk_cell K1_1.out 4).trans rfl; have a5 : w1.cell? ⟨g1, 5, none⟩ = some (.slice A5 y.f5.length c5) := (blk_cell K1_1.out 5).trans rfl; have a6 : w1.cell? ⟨g1, 6, none⟩ = some (.slice A6 y.f6.length c6) := (blk_cell K1_1.out 6).trans rfl; clear hb hbox hg) | (go_at_call 38; refine (cyl_Right.calls K y.f0 y.f1 y.f2 y.f3 y.f4 A5 c5 y.f5 A6 c6 y.f6 false w1 (Kd.C_below H5.out HB1.out) L5.out (Kd.C_below H6.out HB1.out) L6.out HR.out).mono ?_; rintro e w2 ⟨rfl, hb⟩; have HB2 := Aside0.mk (below_step HB1.out hb); have K1_2 := Aside0.mk (blk_below K1_1.out hb); clear hb))
  go_ret2
  exact ⟨rfl, HB2.out⟩
end Go.Proofs.Ytehjmmedghcndaa.PG
