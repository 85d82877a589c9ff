import Derived.Deep.RegionWith
import Derived.Deep.CutRange
import Derived.Test.YtehjmmedghcndaaQCo
import Derived.Test.YtehjmmedghcndaaGB
import Derived.Test.YtehjmmedghcndaaJ41
import Derived.Test.YtehjmmedghcndaaG4
import Derived.Test.YtehjmmedghcndaaCL
import Derived.Test.YtehjmmedghcndaaCB
/-! The law CylCounts, walked. -/
namespace Go.Proofs.Ytehjmmedghcndaa.PG
open Go.RowKit Go.Proofs.YtehjmmedghcndaaW.PrintWords Go.Proofs.YtehjmmedghcndaaW.PrintLast Go.Proofs.YtehjmmedghcndaaW.PrintMore
attribute [local go_sem] Oper.semAt_some
theorem R_far7 {w : World} {b : Nat} {v : Value} {xs : List Int} {g : Nat} {cs : Array Value} (h : Kd.R (Kd.int .i64) 3 w b (fun _ => True) v xs) (hk : w.heap[g]? = some (.cells cs 42 (0, 0))) (v0 v1 v2 v3 v4 v5 v6 : Value) : Kd.R (Kd.int .i64) 3 (((((((w.setCell ⟨g, 0, none⟩ v0).setCell ⟨g, 1, none⟩ v1).setCell ⟨g, 2, none⟩ v2).setCell ⟨g, 3, none⟩ v3).setCell ⟨g, 4, none⟩ v4).setCell ⟨g, 5, none⟩ v5).setCell ⟨g, 6, none⟩ v6) b (fun _ => True) v xs := Kd.R_mono (Kd.R_far (p := ⟨g, 6, none⟩) (Kd.R_far (p := ⟨g, 5, none⟩) (Kd.R_far (p := ⟨g, 4, none⟩) (Kd.R_far (p := ⟨g, 3, none⟩) (Kd.R_far (p := ⟨g, 2, none⟩) (Kd.R_far (p := ⟨g, 1, none⟩) (Kd.R_far (p := ⟨g, 0, none⟩) (Kd.R_types h hk (by decide)) (fun _ hk_ => hk_.2) v0) (fun _ hk_ => hk_.2) v1) (fun _ hk_ => hk_.2) v2) (fun _ hk_ => hk_.2) v3) (fun _ hk_ => hk_.2) v4) (fun _ hk_ => hk_.2) v5) (fun _ hk_ => hk_.2) v6) (fun _ _ => trivial)
theorem c14 {w : World} {g : Nat} {t : TypeId} {v0 v1 v2 v3 v4 v5 v6 v7 v8 v9 v10 v11 v12 v13 : Value} (h : w.heap[g]? = some (.cells #[v0, v1, v2, v3, v4, v5, v6, v7, v8, v9, v10, v11, v12, v13] t (0, 0))) : w.cell? ⟨g, 0, none⟩ = some v0 ∧ w.cell? ⟨g, 1, none⟩ = some v1 ∧ w.cell? ⟨g, 2, none⟩ = some v2 ∧ w.cell? ⟨g, 3, none⟩ = some v3 ∧ w.cell? ⟨g, 4, none⟩ = some v4 ∧ w.cell? ⟨g, 5, none⟩ = some v5 ∧ w.cell? ⟨g, 6, none⟩ = some v6 ∧ w.cell? ⟨g, 7, none⟩ = some v7 ∧ w.cell? ⟨g, 8, none⟩ = some v8 ∧ w.cell? ⟨g, 9, none⟩ = some v9 ∧ w.cell? ⟨g, 10, none⟩ = some v10 ∧ w.cell? ⟨g, 11, none⟩ = some v11 ∧ w.cell? ⟨g, 12, none⟩ = some v12 ∧ w.cell? ⟨g, 13, none⟩ = some v13 := ⟨(blk_cell h 0).trans rfl, (blk_cell h 1).trans rfl, (blk_cell h 2).trans rfl, (blk_cell h 3).trans rfl, (blk_cell h 4).trans rfl, (blk_cell h 5).trans rfl, (blk_cell h 6).trans rfl, (blk_cell h 7).trans rfl, (blk_cell h 8).trans rfl, (blk_cell h 9).trans rfl, (blk_cell h 10).trans rfl, (blk_cell h 11).trans rfl, (blk_cell h 12).trans rfl, (blk_cell h 13).trans rfl⟩
def co_T4 : Bool × List (List Nat × List Nat) := (true, [([], []), ([0], [0]), ([1], [1]), ([], []), ([3], [3]), ([4, 2], [4]), ([], []), ([], []), ([6, 2, 5, 0, 1, 2, 6, 7], [2, 6]), ([7, 5, 8, 0, 1, 2, 3, 4, 5, 6, 7, 8], [5, 7])])
def co_B4 : List Nat := [0, 1, 3, 0, 8, 31, 0, 0, 255, 511]
theorem co_tab4 : rtab .any (opsOf Try.f6 4) = co_T4 := by kernel_rfl
theorem co_bits4 : waitsOk co_T4.2 co_B4 = true := by kernel_rfl
def co_T5 : Bool × List (List Nat × List Nat) := (true, [([], []), ([0, 0], [0]), ([1], [1]), ([1], [1]), ([2, 3, 1], [1, 2, 3]), ([1, 4], [1, 4]), ([5, 1], [5]), ([6], [6]), ([6], [6]), ([7, 8, 6], [6, 7, 8]), ([6, 9], [6, 9]), ([10, 6], [10]), ([11], [11]), ([12, 11, 11], [11, 12]), ([11], [11]), ([14, 13, 11], [11, 14]), ([13, 15, 11], [11, 13, 15]), ([11, 16], [11, 16]), ([17, 15], [17]), ([18], [18]), ([18], [18]), ([19, 20, 18, 18], [18, 19, 20]), ([18], [18]), ([18], [18]), ([22, 23, 21, 18], [18, 22, 23]), ([21, 24, 18], [18, 21, 24]), ([18, 25], [18, 25]), ([26, 24], [26]), ([27], [27]), ([27], [27]), ([28, 29, 27, 27], [27, 28, 29]), ([27, 30], [27, 30]), ([31, 30, 0, 1, 2, 3, 4, 5, 6, 7, 8, 9, 10, 11, 12, 13, 14, 15, 16, 17, 18, 19, 20, 21, 22, 23, 24, 25, 26, 27, 28, 29, 30, 31], [31])])
def co_B5 : List Nat := [0, 1, 3, 3, 15, 31, 63, 127, 127, 511, 1023, 2047, 4095, 8191, 4095, 32767, 65535, 131071, 262143, 524287, 524287, 2097151, 524287, 524287, 16777215, 33554431, 67108863, 134217727, 268435455, 268435455, 1073741823, 2147483647, 4294967295]
theorem co_tab5 : rtab .any (opsOf Try.f6 5) = co_T5 := by kernel_rfl
theorem co_bits5 : waitsOk co_T5.2 co_B5 = true := by kernel_rfl
set_option maxHeartbeats 8000000 in
set_option maxRecDepth 100000 in
theorem counts_walk (A0 : Option Addr) (c0 : Nat) (l0 : List S42) (x y : S42) (A5 : Option Addr) (c5 : Nat) (A6 : Option Addr) (c6 : Nat) (A12 : Option Addr) (c12 : Nat) (A13 : Option Addr) (c13 : Nat) (w : World) (hr0 : Kd.C k42 w A0 l0.length l0) (hc0 : l0.length ≤ c0) (hr5 : Kd.C (Kd.int .i64) w A5 x.f5.length x.f5) (hc5 : x.f5.length ≤ c5) (hr6 : Kd.C (Kd.int .i64) w A6 x.f6.length x.f6) (hc6 : x.f6.length ≤ c6) (hr12 : Kd.C (Kd.int .i64) w A12 y.f5.length y.f5) (hc12 : y.f5.length ≤ c12) (hr13 : Kd.C (Kd.int .i64) w A13 y.f6.length y.f6) (hc13 : y.f6.length ≤ c13) (ix : IntsC x) (iy : IntsC y) :
    Calls Try.prog 6 #[.slice A0 l0.length c0, .agg #[.int .i64 x.f0, .int .i64 x.f1, .int .i64 x.f2, .int .i64 x.f3, .int .i64 x.f4, .slice A5 x.f5.length c5, .slice A6 x.f6.length c6, .int .i64 y.f0, .int .i64 y.f1, .int .i64 y.f2, .int .i64 y.f3, .int .i64 y.f4, .slice A12 y.f5.length c12, .slice A13 y.f6.length c13]] w fun e w' => e = .returned (.bool true) ∧ Below w.heap.size w w' := by
  have HR0 := Aside0.mk hr0
  have HC0 := Aside0.mk hc0
  have HR5 := Aside0.mk hr5
  have HC5 := Aside0.mk hc5
  clear hr5 hc5
  have HR6 := Aside0.mk hr6
  have HC6 := Aside0.mk hc6
  clear hr6 hc6
  have HR12 := Aside0.mk hr12
  have HC12 := Aside0.mk hc12
  clear hr12 hc12
  have HR13 := Aside0.mk hr13
  have HC13 := Aside0.mk hc13
  clear hr13 hc13
  have HIX := Aside0.mk ix
  have HIY := Aside0.mk iy
  have hs := few_small l0
  have hfew := few_is l0 0
  obtain ⟨F, hF⟩ : ∃ F, (l0.take 18).map oneS = F := ⟨_, rfl⟩
  rw [hF] at hs hfew
  have HFEW := Aside0.mk hfew
  have hf1 := cfree_is F hs 0
  have hf2 := rfreeA_is F hs 0
  obtain ⟨⟨fb, fi⟩, hfr⟩ : ∃ z, freeS F = z := ⟨_, rfl⟩
  rw [hfr] at hf1 hf2
  have HF1 := Aside0.mk hf1
  have HF2 := Aside0.mk hf2
  have hp1 := cspread_is F hs 0
  have hp2 := rspread_is F hs 0
  obtain ⟨sp, hsp⟩ : ∃ z, spreadS F = z := ⟨_, rfl⟩
  rw [hsp] at hp1 hp2
  have HP1 := Aside0.mk hp1
  have HP2 := Aside0.mk hp2
  clear hr0 hc0 hs hfew hF hf1 hf2 hfr hp1 hp2 hsp ix iy
  have hu42 := Try.underlying42
  have hu46 := Try.underlying46
  go_enter Try.func6, Try.ntmps6
  go_upto_region 4 with (first | ((with_reducible refine gate_dst (N := 3) rfl ?_); refine box_event ?hg (N := 3) ?hd (cs := #[.int .i64 x.f0, .int .i64 x.f1, .int .i64 x.f2, .int .i64 x.f3, .int .i64 x.f4, .slice A5 x.f5.length c5, .slice A6 x.f6.length c6, .int .i64 y.f0, .int .i64 y.f1, .int .i64 y.f2, .int .i64 y.f3, .int .i64 y.f4, .slice A12 y.f5.length c12, .slice A13 y.f6.length c13]) (t := 46) ?hr ?_; (case hd => rfl); (case hg => rfl); (case hr => first | (go_simp; done) | (go_simp; rfl)); intro g3 hg w1 hbox hb; have K3_1 := Aside0.mk hbox; have HB1 := Aside0.mk hb; clear hb hbox hg) | (go_at_call 12; refine (selvedgelaw18_few.callsN (0 + 20) (fun k_ => k_ < w.heap.size) A0 c0 l0 F w1 (Kd.V_mk HC0.out (Kd.F_below (Kd.C_F k42_heap HR0.out) HB1.out)) HFEW.out).mono ?_; rintro e w2 ⟨v2, rfl, hN, hb⟩; obtain ⟨Af, cf, rfl⟩ := Kd.N_slice hN; have K3_2 := Aside0.mk (blk_below K3_1.out hb); have HB2 := Aside0.mk (below_step HB1.out hb); have FC_2 := Aside0.mk (Kd.N_reads' hN).2.2; have FL := Aside0.mk (Kd.N_reads' hN).2.1; clear hN hb K3_1 HB1) | (go_at_call 22; refine (cyl_Free.calls (0 + 2005) Af cf F fb fi w2 FC_2.out FL.out HF1.out).mono ?_; rintro e w3 ⟨rfl, hb⟩; have K3_3 := Aside0.mk (blk_below K3_2.out hb); have HB3 := Aside0.mk (below_step HB2.out hb); have FC_3 := Aside0.mk (Kd.C_below FC_2.out hb); clear hb K3_2 HB2 FC_2) | (go_at_call 24; refine (selvedgeref18_Free.calls (0 + 3030) Af cf F fb fi w3 FC_3.out FL.out HF2.out).mono ?_; rintro e w4 ⟨rfl, hb⟩; have K3_4 := Aside0.mk (blk_below K3_3.out hb); have HB4 := Aside0.mk (below_step HB3.out hb); have FC_4 := Aside0.mk (Kd.C_below FC_3.out hb); clear hb K3_3 HB3 FC_3))
  have hone1 : ∀ W_, Below w4.heap.size w4 W_ → Calls Try.prog 25 #[.agg #[.int .i64 x.f0, .int .i64 x.f1, .int .i64 x.f2, .int .i64 x.f3, .int .i64 x.f4, .slice A5 x.f5.length c5, .slice A6 x.f6.length c6]] W_ fun e w' => ∃ (P5 : Option Addr) (q5 : Nat) (P6 : Option Addr) (q6 : Nat), e = .returned (.agg #[.int .i64 x.f0, .int .i64 x.f1, .int .i64 x.f2, .int .i64 x.f3, .int .i64 x.f4, .slice P5 (x.f5.take 70).length q5, .slice P6 (x.f6.take 20).length q6]) ∧ Aside0 (∃ b_, Kd.R (Kd.int .i64) 3 w' b_ (fun _ => True) (.slice P5 (x.f5.take 70).length q5) (x.f5.take 70)) ∧ Aside0 (∃ b_, Kd.R (Kd.int .i64) 3 w' b_ (fun _ => True) (.slice P6 (x.f6.take 20).length q6) (x.f6.take 20)) ∧ Below W_.heap.size W_ w' := fun W_ hW_ => by
    refine (selvedgelaw18_one.calls x.f0 x.f1 x.f2 x.f3 x.f4 A5 c5 x.f5 A6 c6 x.f6 x.f0 x.f1 x.f2 x.f3 x.f4 (x.f5.take 70) (x.f6.take 20) W_ (Kd.C_below HR5.out (below_step HB4.out hW_)) HC5.out (Kd.C_below HR6.out (below_step HB4.out hW_)) HC6.out (one_is x)).mono ?_
    rintro e w' ⟨u1, u2, rfl, hR1, hR2, hb⟩
    obtain ⟨P1, q1, rfl⟩ := Kd.R_slice hR1
    obtain ⟨P2, q2, rfl⟩ := Kd.R_slice hR2
    exact ⟨P1, q1, P2, q2, rfl, ⟨_, Kd.R_mono hR1 (fun _ _ => trivial)⟩, ⟨_, Kd.R_mono hR2 (fun _ _ => trivial)⟩, hb⟩
  have hone2 : ∀ W_, Below w4.heap.size w4 W_ → Calls Try.prog 25 #[.agg #[.int .i64 y.f0, .int .i64 y.f1, .int .i64 y.f2, .int .i64 y.f3, .int .i64 y.f4, .slice A12 y.f5.length c12, .slice A13 y.f6.length c13]] W_ fun e w' => ∃ (P12 : Option Addr) (q12 : Nat) (P13 : Option Addr) (q13 : Nat), e = .returned (.agg #[.int .i64 y.f0, .int .i64 y.f1, .int .i64 y.f2, .int .i64 y.f3, .int .i64 y.f4, .slice P12 (y.f5.take 70).length q12, .slice P13 (y.f6.take 20).length q13]) ∧ Aside0 (∃ b_, Kd.R (Kd.int .i64) 3 w' b_ (fun _ => True) (.slice P12 (y.f5.take 70).length q12) (y.f5.take 70)) ∧ Aside0 (∃ b_, Kd.R (Kd.int .i64) 3 w' b_ (fun _ => True) (.slice P13 (y.f6.take 20).length q13) (y.f6.take 20)) ∧ Below W_.heap.size W_ w' := fun W_ hW_ => by
    refine (selvedgelaw18_one.calls y.f0 y.f1 y.f2 y.f3 y.f4 A12 c12 y.f5 A13 c13 y.f6 y.f0 y.f1 y.f2 y.f3 y.f4 (y.f5.take 70) (y.f6.take 20) W_ (Kd.C_below HR12.out (below_step HB4.out hW_)) HC12.out (Kd.C_below HR13.out (below_step HB4.out hW_)) HC13.out (one_is y)).mono ?_
    rintro e w' ⟨u1, u2, rfl, hR1, hR2, hb⟩
    obtain ⟨P1, q1, rfl⟩ := Kd.R_slice hR1
    obtain ⟨P2, q2, rfl⟩ := Kd.R_slice hR2
    exact ⟨P1, q1, P2, q2, rfl, ⟨_, Kd.R_mono hR1 (fun _ _ => trivial)⟩, ⟨_, Kd.R_mono hR2 (fun _ _ => trivial)⟩, hb⟩
  have hS : ∀ w', Below w4.heap.size w4 w' → w'.cell? ⟨g3, 0, none⟩ = some (.int .i64 x.f0) ∧ w'.cell? ⟨g3, 1, none⟩ = some (.int .i64 x.f1) ∧ w'.cell? ⟨g3, 2, none⟩ = some (.int .i64 x.f2) ∧ w'.cell? ⟨g3, 3, none⟩ = some (.int .i64 x.f3) ∧ w'.cell? ⟨g3, 4, none⟩ = some (.int .i64 x.f4) ∧ w'.cell? ⟨g3, 5, none⟩ = some (.slice A5 x.f5.length c5) ∧ w'.cell? ⟨g3, 6, none⟩ = some (.slice A6 x.f6.length c6) ∧ w'.cell? ⟨g3, 7, none⟩ = some (.int .i64 y.f0) ∧ w'.cell? ⟨g3, 8, none⟩ = some (.int .i64 y.f1) ∧ w'.cell? ⟨g3, 9, none⟩ = some (.int .i64 y.f2) ∧ w'.cell? ⟨g3, 10, none⟩ = some (.int .i64 y.f3) ∧ w'.cell? ⟨g3, 11, none⟩ = some (.int .i64 y.f4) ∧ w'.cell? ⟨g3, 12, none⟩ = some (.slice A12 y.f5.length c12) ∧ w'.cell? ⟨g3, 13, none⟩ = some (.slice A13 y.f6.length c13) := fun w' h_ => c14 (blk_below K3_4.out h_)
  have B4 := Aside0.mk (Below.refl w4.heap.size w4)
  refine start_ (n := 10) (S := fun w' => w'.cell? ⟨g3, 0, none⟩ = some (.int .i64 x.f0) ∧ w'.cell? ⟨g3, 1, none⟩ = some (.int .i64 x.f1) ∧ w'.cell? ⟨g3, 2, none⟩ = some (.int .i64 x.f2) ∧ w'.cell? ⟨g3, 3, none⟩ = some (.int .i64 x.f3) ∧ w'.cell? ⟨g3, 4, none⟩ = some (.int .i64 x.f4) ∧ w'.cell? ⟨g3, 5, none⟩ = some (.slice A5 x.f5.length c5) ∧ w'.cell? ⟨g3, 6, none⟩ = some (.slice A6 x.f6.length c6) ∧ w'.cell? ⟨g3, 7, none⟩ = some (.int .i64 y.f0) ∧ w'.cell? ⟨g3, 8, none⟩ = some (.int .i64 y.f1) ∧ w'.cell? ⟨g3, 9, none⟩ = some (.int .i64 y.f2) ∧ w'.cell? ⟨g3, 10, none⟩ = some (.int .i64 y.f3) ∧ w'.cell? ⟨g3, 11, none⟩ = some (.int .i64 y.f4) ∧ w'.cell? ⟨g3, 12, none⟩ = some (.slice A12 y.f5.length c12) ∧ w'.cell? ⟨g3, 13, none⟩ = some (.slice A13 y.f6.length c13)) (ds := [9]) #[false, false, false, false, false, false, false, false, false, false] (by kernel_rfl) rfl rfl (hS _ (below_drew B4.out)) (fun hHeld => ?_); refine with_tabW co_tab4 co_bits4 (fun HT_ HW_ => ?_)
  refine pure_ (i := 0) (N := some 24) (v := ?_) (a' := ?_) #[true, false, false, false, false, false, false, false, false, false] rfl rfl (any_of HT_.out (by kernel_rfl)) (fun _ _ _ h => h) (Or.inl ⟨by rfl, ?_⟩) ?_ ?_
  rotate_left
  · intro w'
    go_simp
    with_reducible rfl
  rotate_left
  · simp only [Act.put, List.setIfInBounds_toArray, List.set_cons_zero, List.set_cons_succ]
    rfl
  refine take_ (i := 1) (N := some 25) (v := ?_) (a' := ?_) #[true, true, false, false, false, false, false, false, false, false] rfl rfl (take_ofW HT_.out HW_.out (by kernel_rfl)) (fun _ _ _ h => h) (Or.inl ⟨by rfl, ?_⟩) hHeld ?_ ?_
  rotate_left
  · rintro w' ⟨s0, s1, s2, s3, s4, s5, s6, s7, s8, s9, s10, s11, s12, s13⟩
    go_simp
    with_reducible rfl
  rotate_left
  · simp only [Act.put, List.setIfInBounds_toArray, List.set_cons_zero, List.set_cons_succ]
    rfl
  refine pure_ (i := 3) (N := some 27) (v := ?_) (a' := ?_) #[true, true, false, true, false, false, false, false, false, false] rfl rfl (any_of HT_.out (by kernel_rfl)) (fun _ _ _ h => h) (Or.inl ⟨by rfl, ?_⟩) ?_ ?_
  rotate_left
  · intro w'
    go_simp
    with_reducible rfl
  rotate_left
  · simp only [Act.put, List.setIfInBounds_toArray, List.set_cons_zero, List.set_cons_succ]
    rfl
  refine take_ (i := 4) (N := some 28) (v := ?_) (a' := ?_) #[true, true, false, true, true, false, false, false, false, false] rfl rfl (take_ofW HT_.out HW_.out (by kernel_rfl)) (fun _ _ _ h => h) (Or.inl ⟨by rfl, ?_⟩) hHeld ?_ ?_
  rotate_left
  · rintro w' ⟨s0, s1, s2, s3, s4, s5, s6, s7, s8, s9, s10, s11, s12, s13⟩
    go_simp
    with_reducible rfl
  rotate_left
  · simp only [Act.put, List.setIfInBounds_toArray, List.set_cons_zero, List.set_cons_succ]
    rfl
  refine join_ 2 #[true, true, true, true, true, true, true, true, false, false] (fun z : (Option Addr × Nat × Option Addr × Nat × Option Addr × Nat × Option Addr × Nat × Nat × Nat) => [(26, .agg #[.int .i64 x.f0, .int .i64 x.f1, .int .i64 x.f2, .int .i64 x.f3, .int .i64 x.f4, .slice z.1 (x.f5.take 70).length z.2.1, .slice z.2.2.1 (x.f6.take 20).length z.2.2.2.1]), (29, .agg #[.int .i64 y.f0, .int .i64 y.f1, .int .i64 y.f2, .int .i64 y.f3, .int .i64 y.f4, .slice z.2.2.2.2.1 (y.f5.take 70).length z.2.2.2.2.2.1, .slice z.2.2.2.2.2.2.1 (y.f6.take 20).length z.2.2.2.2.2.2.2.1]), (10, .pointer (some ⟨z.2.2.2.2.2.2.2.2.1, 0, none⟩)), (11, .pointer (some ⟨z.2.2.2.2.2.2.2.2.2, 0, none⟩))]) (fun z w' => Aside0 (∃ b_, Kd.R (Kd.int .i64) 3 w' b_ (fun _ => True) (.slice z.1 (x.f5.take 70).length z.2.1) (x.f5.take 70)) ∧ Aside0 (∃ b_, Kd.R (Kd.int .i64) 3 w' b_ (fun _ => True) (.slice z.2.2.1 (x.f6.take 20).length z.2.2.2.1) (x.f6.take 20)) ∧ Aside0 (∃ b_, Kd.R (Kd.int .i64) 3 w' b_ (fun _ => True) (.slice z.2.2.2.2.1 (y.f5.take 70).length z.2.2.2.2.2.1) (y.f5.take 70)) ∧ Aside0 (∃ b_, Kd.R (Kd.int .i64) 3 w' b_ (fun _ => True) (.slice z.2.2.2.2.2.2.1 (y.f6.take 20).length z.2.2.2.2.2.2.2.1) (y.f6.take 20)) ∧ Aside0 (Below w4.heap.size w4 w') ∧ Aside0 (w'.heap[z.2.2.2.2.2.2.2.2.1]? = some (.cells #[.int .i64 0, .int .i64 0, .int .i64 0, .int .i64 0, .int .i64 0, .slice none 0 0, .slice none 0 0] 42 (0, 0))) ∧ Aside0 (w'.heap[z.2.2.2.2.2.2.2.2.2]? = some (.cells #[.int .i64 0, .int .i64 0, .int .i64 0, .int .i64 0, .int .i64 0, .slice none 0 0, .slice none 0 0] 42 (0, 0))) ∧ Aside0 (w4.heap.size ≤ z.2.2.2.2.2.2.2.2.1 ∧ w4.heap.size ≤ z.2.2.2.2.2.2.2.2.2 ∧ z.2.2.2.2.2.2.2.2.1 ≠ z.2.2.2.2.2.2.2.2.2)) ?tail (fun hcont => ?_)
  rotate_left
  refine three_ (i := 2) (j := 6) (k := 7) (Ni := some 26) (Nj := some 10) (Nk := some 11) #[true, true, true, true, true, false, false, false, false, false] #[true, true, false, true, true, false, true, false, false, false] #[true, true, false, true, true, false, false, true, false, false] rfl rfl rfl rfl rfl rfl (three_of HT_.out (by kernel_rfl)) (by decide) (by decide) (by decide) (fun K hK => ?_) (fun K hK => ?_) (fun K hK => ?_)
  · refine goes_ Try.func25 (by kernel_rfl) rfl #[.agg #[.int .i64 x.f0, .int .i64 x.f1, .int .i64 x.f2, .int .i64 x.f3, .int .i64 x.f4, .slice A5 x.f5.length c5, .slice A6 x.f6.length c6]] (by rfl) rfl rfl (by simp only [List.map_toArray, List.map_cons, List.map_nil]; rfl) ?_
    refine (hone1 _ (below_drew B4.out)).mono ?_
    rintro e v1 ⟨P5, q5, P6, q6, rfl, OR5, OR6, hb⟩
    replace B4 := Aside0.mk (below_step (below_drew B4.out) hb)
    clear hb
    refine ⟨_, rfl, ?_⟩
    refine hK.out _ _ (hS _ B4.out) (fun hHeld => ?_)
    clear hK K
    refine norm_ (a' := ?_) ?_ ?_
    rotate_left
    · simp only [Act.put, List.setIfInBounds_toArray, List.set_cons_zero, List.set_cons_succ]
      rfl
    refine three_ (i := 5) (j := 6) (k := 7) (Ni := some 29) (Nj := some 10) (Nk := some 11) #[true, true, true, true, true, true, false, false, false, false] #[true, true, true, true, true, false, true, false, false, false] #[true, true, true, true, true, false, false, true, false, false] rfl rfl rfl rfl rfl rfl (three_of HT_.out (by kernel_rfl)) (by decide) (by decide) (by decide) (fun K hK => ?_) (fun K hK => ?_) (fun K hK => ?_)
    · refine goes_ Try.func25 (by kernel_rfl) rfl #[.agg #[.int .i64 y.f0, .int .i64 y.f1, .int .i64 y.f2, .int .i64 y.f3, .int .i64 y.f4, .slice A12 y.f5.length c12, .slice A13 y.f6.length c13]] (by rfl) rfl rfl (by simp only [List.map_toArray, List.map_cons, List.map_nil]; rfl) ?_
      refine (hone2 _ (B4.out)).mono ?_
      rintro e v2 ⟨P12, q12, P13, q13, rfl, OR12, OR13, hb⟩
      replace OR5 := Aside0.mk (OR5.out.imp fun _ h_ => Kd.R_below h_ hb)
      replace OR6 := Aside0.mk (OR6.out.imp fun _ h_ => Kd.R_below h_ hb)
      replace B4 := Aside0.mk (below_step (B4.out) hb)
      clear hb
      refine ⟨_, rfl, ?_⟩
      refine hK.out _ _ (hS _ B4.out) (fun hHeld => ?_)
      clear hK K
      refine norm_ (a' := ?_) ?_ ?_
      rotate_left
      · simp only [Act.put, List.setIfInBounds_toArray, List.set_cons_zero, List.set_cons_succ]
        rfl
      refine two_ (i := 6) (j := 7) (Ni := some 10) (Nj := some 11) #[true, true, true, true, true, true, true, false, false, false] #[true, true, true, true, true, true, false, true, false, false] rfl rfl rfl rfl (two_of HT_.out (by kernel_rfl)) (by decide) (by decide) (fun K hK => ?_) (fun K hK => ?_)
      · refine value_ (v := .pointer (some ⟨(v2).heap.size, 0, none⟩)) (w1 := (v2).alloc (.cells #[.int .i64 0, .int .i64 0, .int .i64 0, .int .i64 0, .int .i64 0, .slice none 0 0, .slice none 0 0] 42 (0, 0))) (by rfl) rfl (by first | (go_simp; done) | (go_simp; rfl)) ?_
        obtain ⟨g10, hg⟩ : ∃ g_, (v2).heap.size = g_ := ⟨_, rfl⟩
        rw [hg]
        obtain ⟨v3, hW⟩ : ∃ W_, (v2).alloc (.cells #[.int .i64 0, .int .i64 0, .int .i64 0, .int .i64 0, .int .i64 0, .slice none 0 0, .slice none 0 0] 42 (0, 0)) = W_ := ⟨_, rfl⟩
        rw [hW]
        have hb : Below (v2).heap.size (v2) v3 := by rw [← hW]; exact below_alloc (Below.refl _ _) _
        have K10 : Aside0 (v3.heap[g10]? = some (.cells #[.int .i64 0, .int .i64 0, .int .i64 0, .int .i64 0, .int .i64 0, .slice none 0 0, .slice none 0 0] 42 (0, 0))) := ⟨by rw [← hW, ← hg]; exact blk_new _ _⟩
        have P10_ : Aside0 (w4.heap.size ≤ g10) := ⟨by rw [← hg]; exact (B4.out).size⟩
        replace OR12 := Aside0.mk (OR12.out.imp fun _ h_ => Kd.R_below h_ hb)
        replace OR13 := Aside0.mk (OR13.out.imp fun _ h_ => Kd.R_below h_ hb)
        replace OR5 := Aside0.mk (OR5.out.imp fun _ h_ => Kd.R_below h_ hb)
        replace OR6 := Aside0.mk (OR6.out.imp fun _ h_ => Kd.R_below h_ hb)
        replace B4 := Aside0.mk (below_step (B4.out) hb)
        clear hb hW hg
        refine hK.out _ _ (hS _ B4.out) (fun hHeld => ?_)
        clear hK K
        refine norm_ (a' := ?_) ?_ ?_
        rotate_left
        · simp only [Act.put, List.setIfInBounds_toArray, List.set_cons_zero, List.set_cons_succ]
          rfl
        refine one_ (i := 7) (N := some 11) #[true, true, true, true, true, true, true, true, false, false] rfl rfl (one_of HT_.out (by kernel_rfl)) (by decide) (fun K hK => ?_)
        refine value_ (v := .pointer (some ⟨(v3).heap.size, 0, none⟩)) (w1 := (v3).alloc (.cells #[.int .i64 0, .int .i64 0, .int .i64 0, .int .i64 0, .int .i64 0, .slice none 0 0, .slice none 0 0] 42 (0, 0))) (by rfl) rfl (by first | (go_simp; done) | (go_simp; rfl)) ?_
        obtain ⟨g11, hg⟩ : ∃ g_, (v3).heap.size = g_ := ⟨_, rfl⟩
        rw [hg]
        obtain ⟨v4, hW⟩ : ∃ W_, (v3).alloc (.cells #[.int .i64 0, .int .i64 0, .int .i64 0, .int .i64 0, .int .i64 0, .slice none 0 0, .slice none 0 0] 42 (0, 0)) = W_ := ⟨_, rfl⟩
        rw [hW]
        have hb : Below (v3).heap.size (v3) v4 := by rw [← hW]; exact below_alloc (Below.refl _ _) _
        have K11 : Aside0 (v4.heap[g11]? = some (.cells #[.int .i64 0, .int .i64 0, .int .i64 0, .int .i64 0, .int .i64 0, .slice none 0 0, .slice none 0 0] 42 (0, 0))) := ⟨by rw [← hW, ← hg]; exact blk_new _ _⟩
        have P11_ : Aside0 (w4.heap.size ≤ g11) := ⟨by rw [← hg]; exact (B4.out).size⟩
        have D_ : Aside0 (g10 ≠ g11) := ⟨by rw [← hg]; have h_ := blk_lt K10.out; omega⟩
        replace K10 := Aside0.mk (blk_below K10.out hb)
        replace OR12 := Aside0.mk (OR12.out.imp fun _ h_ => Kd.R_below h_ hb)
        replace OR13 := Aside0.mk (OR13.out.imp fun _ h_ => Kd.R_below h_ hb)
        replace OR5 := Aside0.mk (OR5.out.imp fun _ h_ => Kd.R_below h_ hb)
        replace OR6 := Aside0.mk (OR6.out.imp fun _ h_ => Kd.R_below h_ hb)
        replace B4 := Aside0.mk (below_step (B4.out) hb)
        clear hb hW hg
        refine hK.out _ _ (hS _ B4.out) (fun hHeld => ?_)
        clear hK K
        refine norm_ (a' := ?_) ?_ ?_
        rotate_left
        · simp only [Act.put, List.setIfInBounds_toArray, List.set_cons_zero, List.set_cons_succ]
          rfl
        have hq := hcont (P5, q5, P6, q6, P12, q12, P13, q13, g10, g11) v4 ⟨OR5, OR6, OR12, OR13, B4, K10, K11, ⟨P10_.out, P11_.out, D_.out⟩⟩
        simp only [putAll, Act.put, List.setIfInBounds_toArray, List.set_cons_zero, List.set_cons_succ] at hq
        exact hq
      · refine value_ (v := .pointer (some ⟨(v2).heap.size, 0, none⟩)) (w1 := (v2).alloc (.cells #[.int .i64 0, .int .i64 0, .int .i64 0, .int .i64 0, .int .i64 0, .slice none 0 0, .slice none 0 0] 42 (0, 0))) (by rfl) rfl (by first | (go_simp; done) | (go_simp; rfl)) ?_
        obtain ⟨g11, hg⟩ : ∃ g_, (v2).heap.size = g_ := ⟨_, rfl⟩
        rw [hg]
        obtain ⟨v5, hW⟩ : ∃ W_, (v2).alloc (.cells #[.int .i64 0, .int .i64 0, .int .i64 0, .int .i64 0, .int .i64 0, .slice none 0 0, .slice none 0 0] 42 (0, 0)) = W_ := ⟨_, rfl⟩
        rw [hW]
        have hb : Below (v2).heap.size (v2) v5 := by rw [← hW]; exact below_alloc (Below.refl _ _) _
        have K11 : Aside0 (v5.heap[g11]? = some (.cells #[.int .i64 0, .int .i64 0, .int .i64 0, .int .i64 0, .int .i64 0, .slice none 0 0, .slice none 0 0] 42 (0, 0))) := ⟨by rw [← hW, ← hg]; exact blk_new _ _⟩
        have P11_ : Aside0 (w4.heap.size ≤ g11) := ⟨by rw [← hg]; exact (B4.out).size⟩
        replace OR12 := Aside0.mk (OR12.out.imp fun _ h_ => Kd.R_below h_ hb)
        replace OR13 := Aside0.mk (OR13.out.imp fun _ h_ => Kd.R_below h_ hb)
        replace OR5 := Aside0.mk (OR5.out.imp fun _ h_ => Kd.R_below h_ hb)
        replace OR6 := Aside0.mk (OR6.out.imp fun _ h_ => Kd.R_below h_ hb)
        replace B4 := Aside0.mk (below_step (B4.out) hb)
        clear hb hW hg
        refine hK.out _ _ (hS _ B4.out) (fun hHeld => ?_)
        clear hK K
        refine norm_ (a' := ?_) ?_ ?_
        rotate_left
        · simp only [Act.put, List.setIfInBounds_toArray, List.set_cons_zero, List.set_cons_succ]
          rfl
        refine one_ (i := 6) (N := some 10) #[true, true, true, true, true, true, true, true, false, false] rfl rfl (one_of HT_.out (by kernel_rfl)) (by decide) (fun K hK => ?_)
        refine value_ (v := .pointer (some ⟨(v5).heap.size, 0, none⟩)) (w1 := (v5).alloc (.cells #[.int .i64 0, .int .i64 0, .int .i64 0, .int .i64 0, .int .i64 0, .slice none 0 0, .slice none 0 0] 42 (0, 0))) (by rfl) rfl (by first | (go_simp; done) | (go_simp; rfl)) ?_
        obtain ⟨g10, hg⟩ : ∃ g_, (v5).heap.size = g_ := ⟨_, rfl⟩
        rw [hg]
        obtain ⟨v6, hW⟩ : ∃ W_, (v5).alloc (.cells #[.int .i64 0, .int .i64 0, .int .i64 0, .int .i64 0, .int .i64 0, .slice none 0 0, .slice none 0 0] 42 (0, 0)) = W_ := ⟨_, rfl⟩
        rw [hW]
        have hb : Below (v5).heap.size (v5) v6 := by rw [← hW]; exact below_alloc (Below.refl _ _) _
        have K10 : Aside0 (v6.heap[g10]? = some (.cells #[.int .i64 0, .int .i64 0, .int .i64 0, .int .i64 0, .int .i64 0, .slice none 0 0, .slice none 0 0] 42 (0, 0))) := ⟨by rw [← hW, ← hg]; exact blk_new _ _⟩
        have P10_ : Aside0 (w4.heap.size ≤ g10) := ⟨by rw [← hg]; exact (B4.out).size⟩
        have D_ : Aside0 (g10 ≠ g11) := ⟨by rw [← hg]; have h_ := blk_lt K11.out; omega⟩
        replace K11 := Aside0.mk (blk_below K11.out hb)
        replace OR12 := Aside0.mk (OR12.out.imp fun _ h_ => Kd.R_below h_ hb)
        replace OR13 := Aside0.mk (OR13.out.imp fun _ h_ => Kd.R_below h_ hb)
        replace OR5 := Aside0.mk (OR5.out.imp fun _ h_ => Kd.R_below h_ hb)
        replace OR6 := Aside0.mk (OR6.out.imp fun _ h_ => Kd.R_below h_ hb)
        replace B4 := Aside0.mk (below_step (B4.out) hb)
        clear hb hW hg
        refine hK.out _ _ (hS _ B4.out) (fun hHeld => ?_)
        clear hK K
        refine norm_ (a' := ?_) ?_ ?_
        rotate_left
        · simp only [Act.put, List.setIfInBounds_toArray, List.set_cons_zero, List.set_cons_succ]
          rfl
        have hq := hcont (P5, q5, P6, q6, P12, q12, P13, q13, g10, g11) v6 ⟨OR5, OR6, OR12, OR13, B4, K10, K11, ⟨P10_.out, P11_.out, D_.out⟩⟩
        simp only [putAll, Act.put, List.setIfInBounds_toArray, List.set_cons_zero, List.set_cons_succ] at hq
        exact hq
    · refine value_ (v := .pointer (some ⟨(v1).heap.size, 0, none⟩)) (w1 := (v1).alloc (.cells #[.int .i64 0, .int .i64 0, .int .i64 0, .int .i64 0, .int .i64 0, .slice none 0 0, .slice none 0 0] 42 (0, 0))) (by rfl) rfl (by first | (go_simp; done) | (go_simp; rfl)) ?_
      obtain ⟨g10, hg⟩ : ∃ g_, (v1).heap.size = g_ := ⟨_, rfl⟩
      rw [hg]
      obtain ⟨v7, hW⟩ : ∃ W_, (v1).alloc (.cells #[.int .i64 0, .int .i64 0, .int .i64 0, .int .i64 0, .int .i64 0, .slice none 0 0, .slice none 0 0] 42 (0, 0)) = W_ := ⟨_, rfl⟩
      rw [hW]
      have hb : Below (v1).heap.size (v1) v7 := by rw [← hW]; exact below_alloc (Below.refl _ _) _
      have K10 : Aside0 (v7.heap[g10]? = some (.cells #[.int .i64 0, .int .i64 0, .int .i64 0, .int .i64 0, .int .i64 0, .slice none 0 0, .slice none 0 0] 42 (0, 0))) := ⟨by rw [← hW, ← hg]; exact blk_new _ _⟩
      have P10_ : Aside0 (w4.heap.size ≤ g10) := ⟨by rw [← hg]; exact (B4.out).size⟩
      replace OR5 := Aside0.mk (OR5.out.imp fun _ h_ => Kd.R_below h_ hb)
      replace OR6 := Aside0.mk (OR6.out.imp fun _ h_ => Kd.R_below h_ hb)
      replace B4 := Aside0.mk (below_step (B4.out) hb)
      clear hb hW hg
      refine hK.out _ _ (hS _ B4.out) (fun hHeld => ?_)
      clear hK K
      refine norm_ (a' := ?_) ?_ ?_
      rotate_left
      · simp only [Act.put, List.setIfInBounds_toArray, List.set_cons_zero, List.set_cons_succ]
        rfl
      refine two_ (i := 5) (j := 7) (Ni := some 29) (Nj := some 11) #[true, true, true, true, true, true, true, false, false, false] #[true, true, true, true, true, false, true, true, false, false] rfl rfl rfl rfl (two_of HT_.out (by kernel_rfl)) (by decide) (by decide) (fun K hK => ?_) (fun K hK => ?_)
      · refine goes_ Try.func25 (by kernel_rfl) rfl #[.agg #[.int .i64 y.f0, .int .i64 y.f1, .int .i64 y.f2, .int .i64 y.f3, .int .i64 y.f4, .slice A12 y.f5.length c12, .slice A13 y.f6.length c13]] (by rfl) rfl rfl (by simp only [List.map_toArray, List.map_cons, List.map_nil]; rfl) ?_
        refine (hone2 _ (B4.out)).mono ?_
        rintro e v8 ⟨P12, q12, P13, q13, rfl, OR12, OR13, hb⟩
        replace K10 := Aside0.mk (blk_below K10.out hb)
        replace OR5 := Aside0.mk (OR5.out.imp fun _ h_ => Kd.R_below h_ hb)
        replace OR6 := Aside0.mk (OR6.out.imp fun _ h_ => Kd.R_below h_ hb)
        replace B4 := Aside0.mk (below_step (B4.out) hb)
        clear hb
        refine ⟨_, rfl, ?_⟩
        refine hK.out _ _ (hS _ B4.out) (fun hHeld => ?_)
        clear hK K
        refine norm_ (a' := ?_) ?_ ?_
        rotate_left
        · simp only [Act.put, List.setIfInBounds_toArray, List.set_cons_zero, List.set_cons_succ]
          rfl
        refine one_ (i := 7) (N := some 11) #[true, true, true, true, true, true, true, true, false, false] rfl rfl (one_of HT_.out (by kernel_rfl)) (by decide) (fun K hK => ?_)
        refine value_ (v := .pointer (some ⟨(v8).heap.size, 0, none⟩)) (w1 := (v8).alloc (.cells #[.int .i64 0, .int .i64 0, .int .i64 0, .int .i64 0, .int .i64 0, .slice none 0 0, .slice none 0 0] 42 (0, 0))) (by rfl) rfl (by first | (go_simp; done) | (go_simp; rfl)) ?_
        obtain ⟨g11, hg⟩ : ∃ g_, (v8).heap.size = g_ := ⟨_, rfl⟩
        rw [hg]
        obtain ⟨v9, hW⟩ : ∃ W_, (v8).alloc (.cells #[.int .i64 0, .int .i64 0, .int .i64 0, .int .i64 0, .int .i64 0, .slice none 0 0, .slice none 0 0] 42 (0, 0)) = W_ := ⟨_, rfl⟩
        rw [hW]
        have hb : Below (v8).heap.size (v8) v9 := by rw [← hW]; exact below_alloc (Below.refl _ _) _
        have K11 : Aside0 (v9.heap[g11]? = some (.cells #[.int .i64 0, .int .i64 0, .int .i64 0, .int .i64 0, .int .i64 0, .slice none 0 0, .slice none 0 0] 42 (0, 0))) := ⟨by rw [← hW, ← hg]; exact blk_new _ _⟩
        have P11_ : Aside0 (w4.heap.size ≤ g11) := ⟨by rw [← hg]; exact (B4.out).size⟩
        have D_ : Aside0 (g10 ≠ g11) := ⟨by rw [← hg]; have h_ := blk_lt K10.out; omega⟩
        replace K10 := Aside0.mk (blk_below K10.out hb)
        replace OR12 := Aside0.mk (OR12.out.imp fun _ h_ => Kd.R_below h_ hb)
        replace OR13 := Aside0.mk (OR13.out.imp fun _ h_ => Kd.R_below h_ hb)
        replace OR5 := Aside0.mk (OR5.out.imp fun _ h_ => Kd.R_below h_ hb)
        replace OR6 := Aside0.mk (OR6.out.imp fun _ h_ => Kd.R_below h_ hb)
        replace B4 := Aside0.mk (below_step (B4.out) hb)
        clear hb hW hg
        refine hK.out _ _ (hS _ B4.out) (fun hHeld => ?_)
        clear hK K
        refine norm_ (a' := ?_) ?_ ?_
        rotate_left
        · simp only [Act.put, List.setIfInBounds_toArray, List.set_cons_zero, List.set_cons_succ]
          rfl
        have hq := hcont (P5, q5, P6, q6, P12, q12, P13, q13, g10, g11) v9 ⟨OR5, OR6, OR12, OR13, B4, K10, K11, ⟨P10_.out, P11_.out, D_.out⟩⟩
        simp only [putAll, Act.put, List.setIfInBounds_toArray, List.set_cons_zero, List.set_cons_succ] at hq
        exact hq
      · refine value_ (v := .pointer (some ⟨(v7).heap.size, 0, none⟩)) (w1 := (v7).alloc (.cells #[.int .i64 0, .int .i64 0, .int .i64 0, .int .i64 0, .int .i64 0, .slice none 0 0, .slice none 0 0] 42 (0, 0))) (by rfl) rfl (by first | (go_simp; done) | (go_simp; rfl)) ?_
        obtain ⟨g11, hg⟩ : ∃ g_, (v7).heap.size = g_ := ⟨_, rfl⟩
        rw [hg]
        obtain ⟨v10, hW⟩ : ∃ W_, (v7).alloc (.cells #[.int .i64 0, .int .i64 0, .int .i64 0, .int .i64 0, .int .i64 0, .slice none 0 0, .slice none 0 0] 42 (0, 0)) = W_ := ⟨_, rfl⟩
        rw [hW]
        have hb : Below (v7).heap.size (v7) v10 := by rw [← hW]; exact below_alloc (Below.refl _ _) _
        have K11 : Aside0 (v10.heap[g11]? = some (.cells #[.int .i64 0, .int .i64 0, .int .i64 0, .int .i64 0, .int .i64 0, .slice none 0 0, .slice none 0 0] 42 (0, 0))) := ⟨by rw [← hW, ← hg]; exact blk_new _ _⟩
        have P11_ : Aside0 (w4.heap.size ≤ g11) := ⟨by rw [← hg]; exact (B4.out).size⟩
        have D_ : Aside0 (g10 ≠ g11) := ⟨by rw [← hg]; have h_ := blk_lt K10.out; omega⟩
        replace K10 := Aside0.mk (blk_below K10.out hb)
        replace OR5 := Aside0.mk (OR5.out.imp fun _ h_ => Kd.R_below h_ hb)
        replace OR6 := Aside0.mk (OR6.out.imp fun _ h_ => Kd.R_below h_ hb)
        replace B4 := Aside0.mk (below_step (B4.out) hb)
        clear hb hW hg
        refine hK.out _ _ (hS _ B4.out) (fun hHeld => ?_)
        clear hK K
        refine norm_ (a' := ?_) ?_ ?_
        rotate_left
        · simp only [Act.put, List.setIfInBounds_toArray, List.set_cons_zero, List.set_cons_succ]
          rfl
        refine one_ (i := 5) (N := some 29) #[true, true, true, true, true, true, true, true, false, false] rfl rfl (one_of HT_.out (by kernel_rfl)) (by decide) (fun K hK => ?_)
        refine goes_ Try.func25 (by kernel_rfl) rfl #[.agg #[.int .i64 y.f0, .int .i64 y.f1, .int .i64 y.f2, .int .i64 y.f3, .int .i64 y.f4, .slice A12 y.f5.length c12, .slice A13 y.f6.length c13]] (by rfl) rfl rfl (by simp only [List.map_toArray, List.map_cons, List.map_nil]; rfl) ?_
        refine (hone2 _ (B4.out)).mono ?_
        rintro e v11 ⟨P12, q12, P13, q13, rfl, OR12, OR13, hb⟩
        replace K10 := Aside0.mk (blk_below K10.out hb)
        replace K11 := Aside0.mk (blk_below K11.out hb)
        replace OR5 := Aside0.mk (OR5.out.imp fun _ h_ => Kd.R_below h_ hb)
        replace OR6 := Aside0.mk (OR6.out.imp fun _ h_ => Kd.R_below h_ hb)
        replace B4 := Aside0.mk (below_step (B4.out) hb)
        clear hb
        refine ⟨_, rfl, ?_⟩
        refine hK.out _ _ (hS _ B4.out) (fun hHeld => ?_)
        clear hK K
        refine norm_ (a' := ?_) ?_ ?_
        rotate_left
        · simp only [Act.put, List.setIfInBounds_toArray, List.set_cons_zero, List.set_cons_succ]
          rfl
        have hq := hcont (P5, q5, P6, q6, P12, q12, P13, q13, g10, g11) v11 ⟨OR5, OR6, OR12, OR13, B4, K10, K11, ⟨P10_.out, P11_.out, D_.out⟩⟩
        simp only [putAll, Act.put, List.setIfInBounds_toArray, List.set_cons_zero, List.set_cons_succ] at hq
        exact hq
    · refine value_ (v := .pointer (some ⟨(v1).heap.size, 0, none⟩)) (w1 := (v1).alloc (.cells #[.int .i64 0, .int .i64 0, .int .i64 0, .int .i64 0, .int .i64 0, .slice none 0 0, .slice none 0 0] 42 (0, 0))) (by rfl) rfl (by first | (go_simp; done) | (go_simp; rfl)) ?_
      obtain ⟨g11, hg⟩ : ∃ g_, (v1).heap.size = g_ := ⟨_, rfl⟩
      rw [hg]
      obtain ⟨v12, hW⟩ : ∃ W_, (v1).alloc (.cells #[.int .i64 0, .int .i64 0, .int .i64 0, .int .i64 0, .int .i64 0, .slice none 0 0, .slice none 0 0] 42 (0, 0)) = W_ := ⟨_, rfl⟩
      rw [hW]
      have hb : Below (v1).heap.size (v1) v12 := by rw [← hW]; exact below_alloc (Below.refl _ _) _
      have K11 : Aside0 (v12.heap[g11]? = some (.cells #[.int .i64 0, .int .i64 0, .int .i64 0, .int .i64 0, .int .i64 0, .slice none 0 0, .slice none 0 0] 42 (0, 0))) := ⟨by rw [← hW, ← hg]; exact blk_new _ _⟩
      have P11_ : Aside0 (w4.heap.size ≤ g11) := ⟨by rw [← hg]; exact (B4.out).size⟩
      replace OR5 := Aside0.mk (OR5.out.imp fun _ h_ => Kd.R_below h_ hb)
      replace OR6 := Aside0.mk (OR6.out.imp fun _ h_ => Kd.R_below h_ hb)
      replace B4 := Aside0.mk (below_step (B4.out) hb)
      clear hb hW hg
      refine hK.out _ _ (hS _ B4.out) (fun hHeld => ?_)
      clear hK K
      refine norm_ (a' := ?_) ?_ ?_
      rotate_left
      · simp only [Act.put, List.setIfInBounds_toArray, List.set_cons_zero, List.set_cons_succ]
        rfl
      refine two_ (i := 5) (j := 6) (Ni := some 29) (Nj := some 10) #[true, true, true, true, true, true, false, true, false, false] #[true, true, true, true, true, false, true, true, false, false] rfl rfl rfl rfl (two_of HT_.out (by kernel_rfl)) (by decide) (by decide) (fun K hK => ?_) (fun K hK => ?_)
      · refine goes_ Try.func25 (by kernel_rfl) rfl #[.agg #[.int .i64 y.f0, .int .i64 y.f1, .int .i64 y.f2, .int .i64 y.f3, .int .i64 y.f4, .slice A12 y.f5.length c12, .slice A13 y.f6.length c13]] (by rfl) rfl rfl (by simp only [List.map_toArray, List.map_cons, List.map_nil]; rfl) ?_
        refine (hone2 _ (B4.out)).mono ?_
        rintro e v13 ⟨P12, q12, P13, q13, rfl, OR12, OR13, hb⟩
        replace K11 := Aside0.mk (blk_below K11.out hb)
        replace OR5 := Aside0.mk (OR5.out.imp fun _ h_ => Kd.R_below h_ hb)
        replace OR6 := Aside0.mk (OR6.out.imp fun _ h_ => Kd.R_below h_ hb)
        replace B4 := Aside0.mk (below_step (B4.out) hb)
        clear hb
        refine ⟨_, rfl, ?_⟩
        refine hK.out _ _ (hS _ B4.out) (fun hHeld => ?_)
        clear hK K
        refine norm_ (a' := ?_) ?_ ?_
        rotate_left
        · simp only [Act.put, List.setIfInBounds_toArray, List.set_cons_zero, List.set_cons_succ]
          rfl
        refine one_ (i := 6) (N := some 10) #[true, true, true, true, true, true, true, true, false, false] rfl rfl (one_of HT_.out (by kernel_rfl)) (by decide) (fun K hK => ?_)
        refine value_ (v := .pointer (some ⟨(v13).heap.size, 0, none⟩)) (w1 := (v13).alloc (.cells #[.int .i64 0, .int .i64 0, .int .i64 0, .int .i64 0, .int .i64 0, .slice none 0 0, .slice none 0 0] 42 (0, 0))) (by rfl) rfl (by first | (go_simp; done) | (go_simp; rfl)) ?_
        obtain ⟨g10, hg⟩ : ∃ g_, (v13).heap.size = g_ := ⟨_, rfl⟩
        rw [hg]
        obtain ⟨v14, hW⟩ : ∃ W_, (v13).alloc (.cells #[.int .i64 0, .int .i64 0, .int .i64 0, .int .i64 0, .int .i64 0, .slice none 0 0, .slice none 0 0] 42 (0, 0)) = W_ := ⟨_, rfl⟩
        rw [hW]
        have hb : Below (v13).heap.size (v13) v14 := by rw [← hW]; exact below_alloc (Below.refl _ _) _
        have K10 : Aside0 (v14.heap[g10]? = some (.cells #[.int .i64 0, .int .i64 0, .int .i64 0, .int .i64 0, .int .i64 0, .slice none 0 0, .slice none 0 0] 42 (0, 0))) := ⟨by rw [← hW, ← hg]; exact blk_new _ _⟩
        have P10_ : Aside0 (w4.heap.size ≤ g10) := ⟨by rw [← hg]; exact (B4.out).size⟩
        have D_ : Aside0 (g10 ≠ g11) := ⟨by rw [← hg]; have h_ := blk_lt K11.out; omega⟩
        replace K11 := Aside0.mk (blk_below K11.out hb)
        replace OR12 := Aside0.mk (OR12.out.imp fun _ h_ => Kd.R_below h_ hb)
        replace OR13 := Aside0.mk (OR13.out.imp fun _ h_ => Kd.R_below h_ hb)
        replace OR5 := Aside0.mk (OR5.out.imp fun _ h_ => Kd.R_below h_ hb)
        replace OR6 := Aside0.mk (OR6.out.imp fun _ h_ => Kd.R_below h_ hb)
        replace B4 := Aside0.mk (below_step (B4.out) hb)
        clear hb hW hg
        refine hK.out _ _ (hS _ B4.out) (fun hHeld => ?_)
        clear hK K
        refine norm_ (a' := ?_) ?_ ?_
        rotate_left
        · simp only [Act.put, List.setIfInBounds_toArray, List.set_cons_zero, List.set_cons_succ]
          rfl
        have hq := hcont (P5, q5, P6, q6, P12, q12, P13, q13, g10, g11) v14 ⟨OR5, OR6, OR12, OR13, B4, K10, K11, ⟨P10_.out, P11_.out, D_.out⟩⟩
        simp only [putAll, Act.put, List.setIfInBounds_toArray, List.set_cons_zero, List.set_cons_succ] at hq
        exact hq
      · refine value_ (v := .pointer (some ⟨(v12).heap.size, 0, none⟩)) (w1 := (v12).alloc (.cells #[.int .i64 0, .int .i64 0, .int .i64 0, .int .i64 0, .int .i64 0, .slice none 0 0, .slice none 0 0] 42 (0, 0))) (by rfl) rfl (by first | (go_simp; done) | (go_simp; rfl)) ?_
        obtain ⟨g10, hg⟩ : ∃ g_, (v12).heap.size = g_ := ⟨_, rfl⟩
        rw [hg]
        obtain ⟨v15, hW⟩ : ∃ W_, (v12).alloc (.cells #[.int .i64 0, .int .i64 0, .int .i64 0, .int .i64 0, .int .i64 0, .slice none 0 0, .slice none 0 0] 42 (0, 0)) = W_ := ⟨_, rfl⟩
        rw [hW]
        have hb : Below (v12).heap.size (v12) v15 := by rw [← hW]; exact below_alloc (Below.refl _ _) _
        have K10 : Aside0 (v15.heap[g10]? = some (.cells #[.int .i64 0, .int .i64 0, .int .i64 0, .int .i64 0, .int .i64 0, .slice none 0 0, .slice none 0 0] 42 (0, 0))) := ⟨by rw [← hW, ← hg]; exact blk_new _ _⟩
        have P10_ : Aside0 (w4.heap.size ≤ g10) := ⟨by rw [← hg]; exact (B4.out).size⟩
        have D_ : Aside0 (g10 ≠ g11) := ⟨by rw [← hg]; have h_ := blk_lt K11.out; omega⟩
        replace K11 := Aside0.mk (blk_below K11.out hb)
        replace OR5 := Aside0.mk (OR5.out.imp fun _ h_ => Kd.R_below h_ hb)
        replace OR6 := Aside0.mk (OR6.out.imp fun _ h_ => Kd.R_below h_ hb)
        replace B4 := Aside0.mk (below_step (B4.out) hb)
        clear hb hW hg
        refine hK.out _ _ (hS _ B4.out) (fun hHeld => ?_)
        clear hK K
        refine norm_ (a' := ?_) ?_ ?_
        rotate_left
        · simp only [Act.put, List.setIfInBounds_toArray, List.set_cons_zero, List.set_cons_succ]
          rfl
        refine one_ (i := 5) (N := some 29) #[true, true, true, true, true, true, true, true, false, false] rfl rfl (one_of HT_.out (by kernel_rfl)) (by decide) (fun K hK => ?_)
        refine goes_ Try.func25 (by kernel_rfl) rfl #[.agg #[.int .i64 y.f0, .int .i64 y.f1, .int .i64 y.f2, .int .i64 y.f3, .int .i64 y.f4, .slice A12 y.f5.length c12, .slice A13 y.f6.length c13]] (by rfl) rfl rfl (by simp only [List.map_toArray, List.map_cons, List.map_nil]; rfl) ?_
        refine (hone2 _ (B4.out)).mono ?_
        rintro e v16 ⟨P12, q12, P13, q13, rfl, OR12, OR13, hb⟩
        replace K10 := Aside0.mk (blk_below K10.out hb)
        replace K11 := Aside0.mk (blk_below K11.out hb)
        replace OR5 := Aside0.mk (OR5.out.imp fun _ h_ => Kd.R_below h_ hb)
        replace OR6 := Aside0.mk (OR6.out.imp fun _ h_ => Kd.R_below h_ hb)
        replace B4 := Aside0.mk (below_step (B4.out) hb)
        clear hb
        refine ⟨_, rfl, ?_⟩
        refine hK.out _ _ (hS _ B4.out) (fun hHeld => ?_)
        clear hK K
        refine norm_ (a' := ?_) ?_ ?_
        rotate_left
        · simp only [Act.put, List.setIfInBounds_toArray, List.set_cons_zero, List.set_cons_succ]
          rfl
        have hq := hcont (P5, q5, P6, q6, P12, q12, P13, q13, g10, g11) v16 ⟨OR5, OR6, OR12, OR13, B4, K10, K11, ⟨P10_.out, P11_.out, D_.out⟩⟩
        simp only [putAll, Act.put, List.setIfInBounds_toArray, List.set_cons_zero, List.set_cons_succ] at hq
        exact hq
  · refine value_ (v := .pointer (some ⟨(w4.drew).heap.size, 0, none⟩)) (w1 := (w4.drew).alloc (.cells #[.int .i64 0, .int .i64 0, .int .i64 0, .int .i64 0, .int .i64 0, .slice none 0 0, .slice none 0 0] 42 (0, 0))) (by rfl) rfl (by first | (go_simp; done) | (go_simp; rfl)) ?_
    obtain ⟨g10, hg⟩ : ∃ g_, (w4.drew).heap.size = g_ := ⟨_, rfl⟩
    rw [hg]
    obtain ⟨v17, hW⟩ : ∃ W_, (w4.drew).alloc (.cells #[.int .i64 0, .int .i64 0, .int .i64 0, .int .i64 0, .int .i64 0, .slice none 0 0, .slice none 0 0] 42 (0, 0)) = W_ := ⟨_, rfl⟩
    rw [hW]
    have hb : Below (w4.drew).heap.size (w4.drew) v17 := by rw [← hW]; exact below_alloc (Below.refl _ _) _
    have K10 : Aside0 (v17.heap[g10]? = some (.cells #[.int .i64 0, .int .i64 0, .int .i64 0, .int .i64 0, .int .i64 0, .slice none 0 0, .slice none 0 0] 42 (0, 0))) := ⟨by rw [← hW, ← hg]; exact blk_new _ _⟩
    have P10_ : Aside0 (w4.heap.size ≤ g10) := ⟨by rw [← hg]; exact (below_drew B4.out).size⟩
    replace B4 := Aside0.mk (below_step (below_drew B4.out) hb)
    clear hb hW hg
    refine hK.out _ _ (hS _ B4.out) (fun hHeld => ?_)
    clear hK K
    refine norm_ (a' := ?_) ?_ ?_
    rotate_left
    · simp only [Act.put, List.setIfInBounds_toArray, List.set_cons_zero, List.set_cons_succ]
      rfl
    refine two_ (i := 2) (j := 7) (Ni := some 26) (Nj := some 11) #[true, true, true, true, true, false, true, false, false, false] #[true, true, false, true, true, false, true, true, false, false] rfl rfl rfl rfl (two_of HT_.out (by kernel_rfl)) (by decide) (by decide) (fun K hK => ?_) (fun K hK => ?_)
    · refine goes_ Try.func25 (by kernel_rfl) rfl #[.agg #[.int .i64 x.f0, .int .i64 x.f1, .int .i64 x.f2, .int .i64 x.f3, .int .i64 x.f4, .slice A5 x.f5.length c5, .slice A6 x.f6.length c6]] (by rfl) rfl rfl (by simp only [List.map_toArray, List.map_cons, List.map_nil]; rfl) ?_
      refine (hone1 _ (B4.out)).mono ?_
      rintro e v18 ⟨P5, q5, P6, q6, rfl, OR5, OR6, hb⟩
      replace K10 := Aside0.mk (blk_below K10.out hb)
      replace B4 := Aside0.mk (below_step (B4.out) hb)
      clear hb
      refine ⟨_, rfl, ?_⟩
      refine hK.out _ _ (hS _ B4.out) (fun hHeld => ?_)
      clear hK K
      refine norm_ (a' := ?_) ?_ ?_
      rotate_left
      · simp only [Act.put, List.setIfInBounds_toArray, List.set_cons_zero, List.set_cons_succ]
        rfl
      refine two_ (i := 5) (j := 7) (Ni := some 29) (Nj := some 11) #[true, true, true, true, true, true, true, false, false, false] #[true, true, true, true, true, false, true, true, false, false] rfl rfl rfl rfl (two_of HT_.out (by kernel_rfl)) (by decide) (by decide) (fun K hK => ?_) (fun K hK => ?_)
      · refine goes_ Try.func25 (by kernel_rfl) rfl #[.agg #[.int .i64 y.f0, .int .i64 y.f1, .int .i64 y.f2, .int .i64 y.f3, .int .i64 y.f4, .slice A12 y.f5.length c12, .slice A13 y.f6.length c13]] (by rfl) rfl rfl (by simp only [List.map_toArray, List.map_cons, List.map_nil]; rfl) ?_
        refine (hone2 _ (B4.out)).mono ?_
        rintro e v19 ⟨P12, q12, P13, q13, rfl, OR12, OR13, hb⟩
        replace K10 := Aside0.mk (blk_below K10.out hb)
        replace OR5 := Aside0.mk (OR5.out.imp fun _ h_ => Kd.R_below h_ hb)
        replace OR6 := Aside0.mk (OR6.out.imp fun _ h_ => Kd.R_below h_ hb)
        replace B4 := Aside0.mk (below_step (B4.out) hb)
        clear hb
        refine ⟨_, rfl, ?_⟩
        refine hK.out _ _ (hS _ B4.out) (fun hHeld => ?_)
        clear hK K
        refine norm_ (a' := ?_) ?_ ?_
        rotate_left
        · simp only [Act.put, List.setIfInBounds_toArray, List.set_cons_zero, List.set_cons_succ]
          rfl
        refine one_ (i := 7) (N := some 11) #[true, true, true, true, true, true, true, true, false, false] rfl rfl (one_of HT_.out (by kernel_rfl)) (by decide) (fun K hK => ?_)
        refine value_ (v := .pointer (some ⟨(v19).heap.size, 0, none⟩)) (w1 := (v19).alloc (.cells #[.int .i64 0, .int .i64 0, .int .i64 0, .int .i64 0, .int .i64 0, .slice none 0 0, .slice none 0 0] 42 (0, 0))) (by rfl) rfl (by first | (go_simp; done) | (go_simp; rfl)) ?_
        obtain ⟨g11, hg⟩ : ∃ g_, (v19).heap.size = g_ := ⟨_, rfl⟩
        rw [hg]
        obtain ⟨v20, hW⟩ : ∃ W_, (v19).alloc (.cells #[.int .i64 0, .int .i64 0, .int .i64 0, .int .i64 0, .int .i64 0, .slice none 0 0, .slice none 0 0] 42 (0, 0)) = W_ := ⟨_, rfl⟩
        rw [hW]
        have hb : Below (v19).heap.size (v19) v20 := by rw [← hW]; exact below_alloc (Below.refl _ _) _
        have K11 : Aside0 (v20.heap[g11]? = some (.cells #[.int .i64 0, .int .i64 0, .int .i64 0, .int .i64 0, .int .i64 0, .slice none 0 0, .slice none 0 0] 42 (0, 0))) := ⟨by rw [← hW, ← hg]; exact blk_new _ _⟩
        have P11_ : Aside0 (w4.heap.size ≤ g11) := ⟨by rw [← hg]; exact (B4.out).size⟩
        have D_ : Aside0 (g10 ≠ g11) := ⟨by rw [← hg]; have h_ := blk_lt K10.out; omega⟩
        replace K10 := Aside0.mk (blk_below K10.out hb)
        replace OR12 := Aside0.mk (OR12.out.imp fun _ h_ => Kd.R_below h_ hb)
        replace OR13 := Aside0.mk (OR13.out.imp fun _ h_ => Kd.R_below h_ hb)
        replace OR5 := Aside0.mk (OR5.out.imp fun _ h_ => Kd.R_below h_ hb)
        replace OR6 := Aside0.mk (OR6.out.imp fun _ h_ => Kd.R_below h_ hb)
        replace B4 := Aside0.mk (below_step (B4.out) hb)
        clear hb hW hg
        refine hK.out _ _ (hS _ B4.out) (fun hHeld => ?_)
        clear hK K
        refine norm_ (a' := ?_) ?_ ?_
        rotate_left
        · simp only [Act.put, List.setIfInBounds_toArray, List.set_cons_zero, List.set_cons_succ]
          rfl
        have hq := hcont (P5, q5, P6, q6, P12, q12, P13, q13, g10, g11) v20 ⟨OR5, OR6, OR12, OR13, B4, K10, K11, ⟨P10_.out, P11_.out, D_.out⟩⟩
        simp only [putAll, Act.put, List.setIfInBounds_toArray, List.set_cons_zero, List.set_cons_succ] at hq
        exact hq
      · refine value_ (v := .pointer (some ⟨(v18).heap.size, 0, none⟩)) (w1 := (v18).alloc (.cells #[.int .i64 0, .int .i64 0, .int .i64 0, .int .i64 0, .int .i64 0, .slice none 0 0, .slice none 0 0] 42 (0, 0))) (by rfl) rfl (by first | (go_simp; done) | (go_simp; rfl)) ?_
        obtain ⟨g11, hg⟩ : ∃ g_, (v18).heap.size = g_ := ⟨_, rfl⟩
        rw [hg]
        obtain ⟨v21, hW⟩ : ∃ W_, (v18).alloc (.cells #[.int .i64 0, .int .i64 0, .int .i64 0, .int .i64 0, .int .i64 0, .slice none 0 0, .slice none 0 0] 42 (0, 0)) = W_ := ⟨_, rfl⟩
        rw [hW]
        have hb : Below (v18).heap.size (v18) v21 := by rw [← hW]; exact below_alloc (Below.refl _ _) _
        have K11 : Aside0 (v21.heap[g11]? = some (.cells #[.int .i64 0, .int .i64 0, .int .i64 0, .int .i64 0, .int .i64 0, .slice none 0 0, .slice none 0 0] 42 (0, 0))) := ⟨by rw [← hW, ← hg]; exact blk_new _ _⟩
        have P11_ : Aside0 (w4.heap.size ≤ g11) := ⟨by rw [← hg]; exact (B4.out).size⟩
        have D_ : Aside0 (g10 ≠ g11) := ⟨by rw [← hg]; have h_ := blk_lt K10.out; omega⟩
        replace K10 := Aside0.mk (blk_below K10.out hb)
        replace OR5 := Aside0.mk (OR5.out.imp fun _ h_ => Kd.R_below h_ hb)
        replace OR6 := Aside0.mk (OR6.out.imp fun _ h_ => Kd.R_below h_ hb)
        replace B4 := Aside0.mk (below_step (B4.out) hb)
        clear hb hW hg
        refine hK.out _ _ (hS _ B4.out) (fun hHeld => ?_)
        clear hK K
        refine norm_ (a' := ?_) ?_ ?_
        rotate_left
        · simp only [Act.put, List.setIfInBounds_toArray, List.set_cons_zero, List.set_cons_succ]
          rfl
        refine one_ (i := 5) (N := some 29) #[true, true, true, true, true, true, true, true, false, false] rfl rfl (one_of HT_.out (by kernel_rfl)) (by decide) (fun K hK => ?_)
        refine goes_ Try.func25 (by kernel_rfl) rfl #[.agg #[.int .i64 y.f0, .int .i64 y.f1, .int .i64 y.f2, .int .i64 y.f3, .int .i64 y.f4, .slice A12 y.f5.length c12, .slice A13 y.f6.length c13]] (by rfl) rfl rfl (by simp only [List.map_toArray, List.map_cons, List.map_nil]; rfl) ?_
        refine (hone2 _ (B4.out)).mono ?_
        rintro e v22 ⟨P12, q12, P13, q13, rfl, OR12, OR13, hb⟩
        replace K10 := Aside0.mk (blk_below K10.out hb)
        replace K11 := Aside0.mk (blk_below K11.out hb)
        replace OR5 := Aside0.mk (OR5.out.imp fun _ h_ => Kd.R_below h_ hb)
        replace OR6 := Aside0.mk (OR6.out.imp fun _ h_ => Kd.R_below h_ hb)
        replace B4 := Aside0.mk (below_step (B4.out) hb)
        clear hb
        refine ⟨_, rfl, ?_⟩
        refine hK.out _ _ (hS _ B4.out) (fun hHeld => ?_)
        clear hK K
        refine norm_ (a' := ?_) ?_ ?_
        rotate_left
        · simp only [Act.put, List.setIfInBounds_toArray, List.set_cons_zero, List.set_cons_succ]
          rfl
        have hq := hcont (P5, q5, P6, q6, P12, q12, P13, q13, g10, g11) v22 ⟨OR5, OR6, OR12, OR13, B4, K10, K11, ⟨P10_.out, P11_.out, D_.out⟩⟩
        simp only [putAll, Act.put, List.setIfInBounds_toArray, List.set_cons_zero, List.set_cons_succ] at hq
        exact hq
    · refine value_ (v := .pointer (some ⟨(v17).heap.size, 0, none⟩)) (w1 := (v17).alloc (.cells #[.int .i64 0, .int .i64 0, .int .i64 0, .int .i64 0, .int .i64 0, .slice none 0 0, .slice none 0 0] 42 (0, 0))) (by rfl) rfl (by first | (go_simp; done) | (go_simp; rfl)) ?_
      obtain ⟨g11, hg⟩ : ∃ g_, (v17).heap.size = g_ := ⟨_, rfl⟩
      rw [hg]
      obtain ⟨v23, hW⟩ : ∃ W_, (v17).alloc (.cells #[.int .i64 0, .int .i64 0, .int .i64 0, .int .i64 0, .int .i64 0, .slice none 0 0, .slice none 0 0] 42 (0, 0)) = W_ := ⟨_, rfl⟩
      rw [hW]
      have hb : Below (v17).heap.size (v17) v23 := by rw [← hW]; exact below_alloc (Below.refl _ _) _
      have K11 : Aside0 (v23.heap[g11]? = some (.cells #[.int .i64 0, .int .i64 0, .int .i64 0, .int .i64 0, .int .i64 0, .slice none 0 0, .slice none 0 0] 42 (0, 0))) := ⟨by rw [← hW, ← hg]; exact blk_new _ _⟩
      have P11_ : Aside0 (w4.heap.size ≤ g11) := ⟨by rw [← hg]; exact (B4.out).size⟩
      have D_ : Aside0 (g10 ≠ g11) := ⟨by rw [← hg]; have h_ := blk_lt K10.out; omega⟩
      replace K10 := Aside0.mk (blk_below K10.out hb)
      replace B4 := Aside0.mk (below_step (B4.out) hb)
      clear hb hW hg
      refine hK.out _ _ (hS _ B4.out) (fun hHeld => ?_)
      clear hK K
      refine norm_ (a' := ?_) ?_ ?_
      rotate_left
      · simp only [Act.put, List.setIfInBounds_toArray, List.set_cons_zero, List.set_cons_succ]
        rfl
      refine one_ (i := 2) (N := some 26) #[true, true, true, true, true, false, true, true, false, false] rfl rfl (one_of HT_.out (by kernel_rfl)) (by decide) (fun K hK => ?_)
      refine goes_ Try.func25 (by kernel_rfl) rfl #[.agg #[.int .i64 x.f0, .int .i64 x.f1, .int .i64 x.f2, .int .i64 x.f3, .int .i64 x.f4, .slice A5 x.f5.length c5, .slice A6 x.f6.length c6]] (by rfl) rfl rfl (by simp only [List.map_toArray, List.map_cons, List.map_nil]; rfl) ?_
      refine (hone1 _ (B4.out)).mono ?_
      rintro e v24 ⟨P5, q5, P6, q6, rfl, OR5, OR6, hb⟩
      replace K10 := Aside0.mk (blk_below K10.out hb)
      replace K11 := Aside0.mk (blk_below K11.out hb)
      replace B4 := Aside0.mk (below_step (B4.out) hb)
      clear hb
      refine ⟨_, rfl, ?_⟩
      refine hK.out _ _ (hS _ B4.out) (fun hHeld => ?_)
      clear hK K
      refine norm_ (a' := ?_) ?_ ?_
      rotate_left
      · simp only [Act.put, List.setIfInBounds_toArray, List.set_cons_zero, List.set_cons_succ]
        rfl
      refine one_ (i := 5) (N := some 29) #[true, true, true, true, true, true, true, true, false, false] rfl rfl (one_of HT_.out (by kernel_rfl)) (by decide) (fun K hK => ?_)
      refine goes_ Try.func25 (by kernel_rfl) rfl #[.agg #[.int .i64 y.f0, .int .i64 y.f1, .int .i64 y.f2, .int .i64 y.f3, .int .i64 y.f4, .slice A12 y.f5.length c12, .slice A13 y.f6.length c13]] (by rfl) rfl rfl (by simp only [List.map_toArray, List.map_cons, List.map_nil]; rfl) ?_
      refine (hone2 _ (B4.out)).mono ?_
      rintro e v25 ⟨P12, q12, P13, q13, rfl, OR12, OR13, hb⟩
      replace K10 := Aside0.mk (blk_below K10.out hb)
      replace K11 := Aside0.mk (blk_below K11.out hb)
      replace OR5 := Aside0.mk (OR5.out.imp fun _ h_ => Kd.R_below h_ hb)
      replace OR6 := Aside0.mk (OR6.out.imp fun _ h_ => Kd.R_below h_ hb)
      replace B4 := Aside0.mk (below_step (B4.out) hb)
      clear hb
      refine ⟨_, rfl, ?_⟩
      refine hK.out _ _ (hS _ B4.out) (fun hHeld => ?_)
      clear hK K
      refine norm_ (a' := ?_) ?_ ?_
      rotate_left
      · simp only [Act.put, List.setIfInBounds_toArray, List.set_cons_zero, List.set_cons_succ]
        rfl
      have hq := hcont (P5, q5, P6, q6, P12, q12, P13, q13, g10, g11) v25 ⟨OR5, OR6, OR12, OR13, B4, K10, K11, ⟨P10_.out, P11_.out, D_.out⟩⟩
      simp only [putAll, Act.put, List.setIfInBounds_toArray, List.set_cons_zero, List.set_cons_succ] at hq
      exact hq
  · refine value_ (v := .pointer (some ⟨(w4.drew).heap.size, 0, none⟩)) (w1 := (w4.drew).alloc (.cells #[.int .i64 0, .int .i64 0, .int .i64 0, .int .i64 0, .int .i64 0, .slice none 0 0, .slice none 0 0] 42 (0, 0))) (by rfl) rfl (by first | (go_simp; done) | (go_simp; rfl)) ?_
    obtain ⟨g11, hg⟩ : ∃ g_, (w4.drew).heap.size = g_ := ⟨_, rfl⟩
    rw [hg]
    obtain ⟨v26, hW⟩ : ∃ W_, (w4.drew).alloc (.cells #[.int .i64 0, .int .i64 0, .int .i64 0, .int .i64 0, .int .i64 0, .slice none 0 0, .slice none 0 0] 42 (0, 0)) = W_ := ⟨_, rfl⟩
    rw [hW]
    have hb : Below (w4.drew).heap.size (w4.drew) v26 := by rw [← hW]; exact below_alloc (Below.refl _ _) _
    have K11 : Aside0 (v26.heap[g11]? = some (.cells #[.int .i64 0, .int .i64 0, .int .i64 0, .int .i64 0, .int .i64 0, .slice none 0 0, .slice none 0 0] 42 (0, 0))) := ⟨by rw [← hW, ← hg]; exact blk_new _ _⟩
    have P11_ : Aside0 (w4.heap.size ≤ g11) := ⟨by rw [← hg]; exact (below_drew B4.out).size⟩
    replace B4 := Aside0.mk (below_step (below_drew B4.out) hb)
    clear hb hW hg
    refine hK.out _ _ (hS _ B4.out) (fun hHeld => ?_)
    clear hK K
    refine norm_ (a' := ?_) ?_ ?_
    rotate_left
    · simp only [Act.put, List.setIfInBounds_toArray, List.set_cons_zero, List.set_cons_succ]
      rfl
    refine two_ (i := 2) (j := 6) (Ni := some 26) (Nj := some 10) #[true, true, true, true, true, false, false, true, false, false] #[true, true, false, true, true, false, true, true, false, false] rfl rfl rfl rfl (two_of HT_.out (by kernel_rfl)) (by decide) (by decide) (fun K hK => ?_) (fun K hK => ?_)
    · refine goes_ Try.func25 (by kernel_rfl) rfl #[.agg #[.int .i64 x.f0, .int .i64 x.f1, .int .i64 x.f2, .int .i64 x.f3, .int .i64 x.f4, .slice A5 x.f5.length c5, .slice A6 x.f6.length c6]] (by rfl) rfl rfl (by simp only [List.map_toArray, List.map_cons, List.map_nil]; rfl) ?_
      refine (hone1 _ (B4.out)).mono ?_
      rintro e v27 ⟨P5, q5, P6, q6, rfl, OR5, OR6, hb⟩
      replace K11 := Aside0.mk (blk_below K11.out hb)
      replace B4 := Aside0.mk (below_step (B4.out) hb)
      clear hb
      refine ⟨_, rfl, ?_⟩
      refine hK.out _ _ (hS _ B4.out) (fun hHeld => ?_)
      clear hK K
      refine norm_ (a' := ?_) ?_ ?_
      rotate_left
      · simp only [Act.put, List.setIfInBounds_toArray, List.set_cons_zero, List.set_cons_succ]
        rfl
      refine two_ (i := 5) (j := 6) (Ni := some 29) (Nj := some 10) #[true, true, true, true, true, true, false, true, false, false] #[true, true, true, true, true, false, true, true, false, false] rfl rfl rfl rfl (two_of HT_.out (by kernel_rfl)) (by decide) (by decide) (fun K hK => ?_) (fun K hK => ?_)
      · refine goes_ Try.func25 (by kernel_rfl) rfl #[.agg #[.int .i64 y.f0, .int .i64 y.f1, .int .i64 y.f2, .int .i64 y.f3, .int .i64 y.f4, .slice A12 y.f5.length c12, .slice A13 y.f6.length c13]] (by rfl) rfl rfl (by simp only [List.map_toArray, List.map_cons, List.map_nil]; rfl) ?_
        refine (hone2 _ (B4.out)).mono ?_
        rintro e v28 ⟨P12, q12, P13, q13, rfl, OR12, OR13, hb⟩
        replace K11 := Aside0.mk (blk_below K11.out hb)
        replace OR5 := Aside0.mk (OR5.out.imp fun _ h_ => Kd.R_below h_ hb)
        replace OR6 := Aside0.mk (OR6.out.imp fun _ h_ => Kd.R_below h_ hb)
        replace B4 := Aside0.mk (below_step (B4.out) hb)
        clear hb
        refine ⟨_, rfl, ?_⟩
        refine hK.out _ _ (hS _ B4.out) (fun hHeld => ?_)
        clear hK K
        refine norm_ (a' := ?_) ?_ ?_
        rotate_left
        · simp only [Act.put, List.setIfInBounds_toArray, List.set_cons_zero, List.set_cons_succ]
          rfl
        refine one_ (i := 6) (N := some 10) #[true, true, true, true, true, true, true, true, false, false] rfl rfl (one_of HT_.out (by kernel_rfl)) (by decide) (fun K hK => ?_)
        refine value_ (v := .pointer (some ⟨(v28).heap.size, 0, none⟩)) (w1 := (v28).alloc (.cells #[.int .i64 0, .int .i64 0, .int .i64 0, .int .i64 0, .int .i64 0, .slice none 0 0, .slice none 0 0] 42 (0, 0))) (by rfl) rfl (by first | (go_simp; done) | (go_simp; rfl)) ?_
        obtain ⟨g10, hg⟩ : ∃ g_, (v28).heap.size = g_ := ⟨_, rfl⟩
        rw [hg]
        obtain ⟨v29, hW⟩ : ∃ W_, (v28).alloc (.cells #[.int .i64 0, .int .i64 0, .int .i64 0, .int .i64 0, .int .i64 0, .slice none 0 0, .slice none 0 0] 42 (0, 0)) = W_ := ⟨_, rfl⟩
        rw [hW]
        have hb : Below (v28).heap.size (v28) v29 := by rw [← hW]; exact below_alloc (Below.refl _ _) _
        have K10 : Aside0 (v29.heap[g10]? = some (.cells #[.int .i64 0, .int .i64 0, .int .i64 0, .int .i64 0, .int .i64 0, .slice none 0 0, .slice none 0 0] 42 (0, 0))) := ⟨by rw [← hW, ← hg]; exact blk_new _ _⟩
        have P10_ : Aside0 (w4.heap.size ≤ g10) := ⟨by rw [← hg]; exact (B4.out).size⟩
        have D_ : Aside0 (g10 ≠ g11) := ⟨by rw [← hg]; have h_ := blk_lt K11.out; omega⟩
        replace K11 := Aside0.mk (blk_below K11.out hb)
        replace OR12 := Aside0.mk (OR12.out.imp fun _ h_ => Kd.R_below h_ hb)
        replace OR13 := Aside0.mk (OR13.out.imp fun _ h_ => Kd.R_below h_ hb)
        replace OR5 := Aside0.mk (OR5.out.imp fun _ h_ => Kd.R_below h_ hb)
        replace OR6 := Aside0.mk (OR6.out.imp fun _ h_ => Kd.R_below h_ hb)
        replace B4 := Aside0.mk (below_step (B4.out) hb)
        clear hb hW hg
        refine hK.out _ _ (hS _ B4.out) (fun hHeld => ?_)
        clear hK K
        refine norm_ (a' := ?_) ?_ ?_
        rotate_left
        · simp only [Act.put, List.setIfInBounds_toArray, List.set_cons_zero, List.set_cons_succ]
          rfl
        have hq := hcont (P5, q5, P6, q6, P12, q12, P13, q13, g10, g11) v29 ⟨OR5, OR6, OR12, OR13, B4, K10, K11, ⟨P10_.out, P11_.out, D_.out⟩⟩
        simp only [putAll, Act.put, List.setIfInBounds_toArray, List.set_cons_zero, List.set_cons_succ] at hq
        exact hq
      · refine value_ (v := .pointer (some ⟨(v27).heap.size, 0, none⟩)) (w1 := (v27).alloc (.cells #[.int .i64 0, .int .i64 0, .int .i64 0, .int .i64 0, .int .i64 0, .slice none 0 0, .slice none 0 0] 42 (0, 0))) (by rfl) rfl (by first | (go_simp; done) | (go_simp; rfl)) ?_
        obtain ⟨g10, hg⟩ : ∃ g_, (v27).heap.size = g_ := ⟨_, rfl⟩
        rw [hg]
        obtain ⟨v30, hW⟩ : ∃ W_, (v27).alloc (.cells #[.int .i64 0, .int .i64 0, .int .i64 0, .int .i64 0, .int .i64 0, .slice none 0 0, .slice none 0 0] 42 (0, 0)) = W_ := ⟨_, rfl⟩
        rw [hW]
        have hb : Below (v27).heap.size (v27) v30 := by rw [← hW]; exact below_alloc (Below.refl _ _) _
        have K10 : Aside0 (v30.heap[g10]? = some (.cells #[.int .i64 0, .int .i64 0, .int .i64 0, .int .i64 0, .int .i64 0, .slice none 0 0, .slice none 0 0] 42 (0, 0))) := ⟨by rw [← hW, ← hg]; exact blk_new _ _⟩
        have P10_ : Aside0 (w4.heap.size ≤ g10) := ⟨by rw [← hg]; exact (B4.out).size⟩
        have D_ : Aside0 (g10 ≠ g11) := ⟨by rw [← hg]; have h_ := blk_lt K11.out; omega⟩
        replace K11 := Aside0.mk (blk_below K11.out hb)
        replace OR5 := Aside0.mk (OR5.out.imp fun _ h_ => Kd.R_below h_ hb)
        replace OR6 := Aside0.mk (OR6.out.imp fun _ h_ => Kd.R_below h_ hb)
        replace B4 := Aside0.mk (below_step (B4.out) hb)
        clear hb hW hg
        refine hK.out _ _ (hS _ B4.out) (fun hHeld => ?_)
        clear hK K
        refine norm_ (a' := ?_) ?_ ?_
        rotate_left
        · simp only [Act.put, List.setIfInBounds_toArray, List.set_cons_zero, List.set_cons_succ]
          rfl
        refine one_ (i := 5) (N := some 29) #[true, true, true, true, true, true, true, true, false, false] rfl rfl (one_of HT_.out (by kernel_rfl)) (by decide) (fun K hK => ?_)
        refine goes_ Try.func25 (by kernel_rfl) rfl #[.agg #[.int .i64 y.f0, .int .i64 y.f1, .int .i64 y.f2, .int .i64 y.f3, .int .i64 y.f4, .slice A12 y.f5.length c12, .slice A13 y.f6.length c13]] (by rfl) rfl rfl (by simp only [List.map_toArray, List.map_cons, List.map_nil]; rfl) ?_
        refine (hone2 _ (B4.out)).mono ?_
        rintro e v31 ⟨P12, q12, P13, q13, rfl, OR12, OR13, hb⟩
        replace K10 := Aside0.mk (blk_below K10.out hb)
        replace K11 := Aside0.mk (blk_below K11.out hb)
        replace OR5 := Aside0.mk (OR5.out.imp fun _ h_ => Kd.R_below h_ hb)
        replace OR6 := Aside0.mk (OR6.out.imp fun _ h_ => Kd.R_below h_ hb)
        replace B4 := Aside0.mk (below_step (B4.out) hb)
        clear hb
        refine ⟨_, rfl, ?_⟩
        refine hK.out _ _ (hS _ B4.out) (fun hHeld => ?_)
        clear hK K
        refine norm_ (a' := ?_) ?_ ?_
        rotate_left
        · simp only [Act.put, List.setIfInBounds_toArray, List.set_cons_zero, List.set_cons_succ]
          rfl
        have hq := hcont (P5, q5, P6, q6, P12, q12, P13, q13, g10, g11) v31 ⟨OR5, OR6, OR12, OR13, B4, K10, K11, ⟨P10_.out, P11_.out, D_.out⟩⟩
        simp only [putAll, Act.put, List.setIfInBounds_toArray, List.set_cons_zero, List.set_cons_succ] at hq
        exact hq
    · refine value_ (v := .pointer (some ⟨(v26).heap.size, 0, none⟩)) (w1 := (v26).alloc (.cells #[.int .i64 0, .int .i64 0, .int .i64 0, .int .i64 0, .int .i64 0, .slice none 0 0, .slice none 0 0] 42 (0, 0))) (by rfl) rfl (by first | (go_simp; done) | (go_simp; rfl)) ?_
      obtain ⟨g10, hg⟩ : ∃ g_, (v26).heap.size = g_ := ⟨_, rfl⟩
      rw [hg]
      obtain ⟨v32, hW⟩ : ∃ W_, (v26).alloc (.cells #[.int .i64 0, .int .i64 0, .int .i64 0, .int .i64 0, .int .i64 0, .slice none 0 0, .slice none 0 0] 42 (0, 0)) = W_ := ⟨_, rfl⟩
      rw [hW]
      have hb : Below (v26).heap.size (v26) v32 := by rw [← hW]; exact below_alloc (Below.refl _ _) _
      have K10 : Aside0 (v32.heap[g10]? = some (.cells #[.int .i64 0, .int .i64 0, .int .i64 0, .int .i64 0, .int .i64 0, .slice none 0 0, .slice none 0 0] 42 (0, 0))) := ⟨by rw [← hW, ← hg]; exact blk_new _ _⟩
      have P10_ : Aside0 (w4.heap.size ≤ g10) := ⟨by rw [← hg]; exact (B4.out).size⟩
      have D_ : Aside0 (g10 ≠ g11) := ⟨by rw [← hg]; have h_ := blk_lt K11.out; omega⟩
      replace K11 := Aside0.mk (blk_below K11.out hb)
      replace B4 := Aside0.mk (below_step (B4.out) hb)
      clear hb hW hg
      refine hK.out _ _ (hS _ B4.out) (fun hHeld => ?_)
      clear hK K
      refine norm_ (a' := ?_) ?_ ?_
      rotate_left
      · simp only [Act.put, List.setIfInBounds_toArray, List.set_cons_zero, List.set_cons_succ]
        rfl
      refine one_ (i := 2) (N := some 26) #[true, true, true, true, true, false, true, true, false, false] rfl rfl (one_of HT_.out (by kernel_rfl)) (by decide) (fun K hK => ?_)
      refine goes_ Try.func25 (by kernel_rfl) rfl #[.agg #[.int .i64 x.f0, .int .i64 x.f1, .int .i64 x.f2, .int .i64 x.f3, .int .i64 x.f4, .slice A5 x.f5.length c5, .slice A6 x.f6.length c6]] (by rfl) rfl rfl (by simp only [List.map_toArray, List.map_cons, List.map_nil]; rfl) ?_
      refine (hone1 _ (B4.out)).mono ?_
      rintro e v33 ⟨P5, q5, P6, q6, rfl, OR5, OR6, hb⟩
      replace K10 := Aside0.mk (blk_below K10.out hb)
      replace K11 := Aside0.mk (blk_below K11.out hb)
      replace B4 := Aside0.mk (below_step (B4.out) hb)
      clear hb
      refine ⟨_, rfl, ?_⟩
      refine hK.out _ _ (hS _ B4.out) (fun hHeld => ?_)
      clear hK K
      refine norm_ (a' := ?_) ?_ ?_
      rotate_left
      · simp only [Act.put, List.setIfInBounds_toArray, List.set_cons_zero, List.set_cons_succ]
        rfl
      refine one_ (i := 5) (N := some 29) #[true, true, true, true, true, true, true, true, false, false] rfl rfl (one_of HT_.out (by kernel_rfl)) (by decide) (fun K hK => ?_)
      refine goes_ Try.func25 (by kernel_rfl) rfl #[.agg #[.int .i64 y.f0, .int .i64 y.f1, .int .i64 y.f2, .int .i64 y.f3, .int .i64 y.f4, .slice A12 y.f5.length c12, .slice A13 y.f6.length c13]] (by rfl) rfl rfl (by simp only [List.map_toArray, List.map_cons, List.map_nil]; rfl) ?_
      refine (hone2 _ (B4.out)).mono ?_
      rintro e v34 ⟨P12, q12, P13, q13, rfl, OR12, OR13, hb⟩
      replace K10 := Aside0.mk (blk_below K10.out hb)
      replace K11 := Aside0.mk (blk_below K11.out hb)
      replace OR5 := Aside0.mk (OR5.out.imp fun _ h_ => Kd.R_below h_ hb)
      replace OR6 := Aside0.mk (OR6.out.imp fun _ h_ => Kd.R_below h_ hb)
      replace B4 := Aside0.mk (below_step (B4.out) hb)
      clear hb
      refine ⟨_, rfl, ?_⟩
      refine hK.out _ _ (hS _ B4.out) (fun hHeld => ?_)
      clear hK K
      refine norm_ (a' := ?_) ?_ ?_
      rotate_left
      · simp only [Act.put, List.setIfInBounds_toArray, List.set_cons_zero, List.set_cons_succ]
        rfl
      have hq := hcont (P5, q5, P6, q6, P12, q12, P13, q13, g10, g11) v34 ⟨OR5, OR6, OR12, OR13, B4, K10, K11, ⟨P10_.out, P11_.out, D_.out⟩⟩
      simp only [putAll, Act.put, List.setIfInBounds_toArray, List.set_cons_zero, List.set_cons_succ] at hq
      exact hq
  case tail =>
    rintro ⟨P5, q5, P6, q6, P12, q12, P13, q13, g10, g11⟩ w5 ⟨OR5, OR6, OR12, OR13, B5, K10, K11, PP⟩
    dsimp only at OR5 OR6 OR12 OR13 K10 K11 PP ⊢
    refine norm_ (a' := ?_) ?_ ?_
    rotate_left
    · simp only [putAll, Act.put, List.setIfInBounds_toArray, List.set_cons_zero, List.set_cons_succ]
      rfl
    have r0 : w5.cell? ⟨g10, 0, none⟩ = some (.int .i64 0) := (blk_cell K10.out 0).trans rfl
    have r1 : w5.cell? ⟨g10, 1, none⟩ = some (.int .i64 0) := (blk_cell K10.out 1).trans rfl
    have r2 : w5.cell? ⟨g10, 2, none⟩ = some (.int .i64 0) := (blk_cell K10.out 2).trans rfl
    have r3 : w5.cell? ⟨g10, 3, none⟩ = some (.int .i64 0) := (blk_cell K10.out 3).trans rfl
    have r4 : w5.cell? ⟨g10, 4, none⟩ = some (.int .i64 0) := (blk_cell K10.out 4).trans rfl
    have r5 : w5.cell? ⟨g10, 5, none⟩ = some (.slice none 0 0) := (blk_cell K10.out 5).trans rfl
    have r6 : w5.cell? ⟨g10, 6, none⟩ = some (.slice none 0 0) := (blk_cell K10.out 6).trans rfl
    have z0 := blk_frozen K10.out 0
    have z1 := blk_frozen K10.out 1
    have z2 := blk_frozen K10.out 2
    have z3 := blk_frozen K10.out 3
    have z4 := blk_frozen K10.out 4
    have z5 := blk_frozen K10.out 5
    have z6 := blk_frozen K10.out 6
    refine one_ (i := 8) (N := none) #[true, true, true, true, true, true, true, true, true, false] rfl rfl (one_of HT_.out (by kernel_rfl)) (by decide) (fun K hK => ?_)
    refine skipE_ (w1 := (((((((w5.setCell ⟨g10, 0, none⟩ (.int .i64 x.f0)).setCell ⟨g10, 1, none⟩ (.int .i64 x.f1)).setCell ⟨g10, 2, none⟩ (.int .i64 x.f2)).setCell ⟨g10, 3, none⟩ (.int .i64 x.f3)).setCell ⟨g10, 4, none⟩ (.int .i64 x.f4)).setCell ⟨g10, 5, none⟩ (.slice P5 (x.f5.take 70).length q5)).setCell ⟨g10, 6, none⟩ (.slice P6 (x.f6.take 20).length q6))) (by rfl) rfl (by first | (go_simp; done) | (go_simp; rfl)) (fun w6 hw => ?_)
    replace OR5 := Aside0.mk (OR5.out.imp fun _ h_ => show Kd.R _ _ w6 _ _ _ _ by rw [hw]; exact R_far7 h_ K10.out _ _ _ _ _ _ _)
    replace OR6 := Aside0.mk (OR6.out.imp fun _ h_ => show Kd.R _ _ w6 _ _ _ _ by rw [hw]; exact R_far7 h_ K10.out _ _ _ _ _ _ _)
    replace OR12 := Aside0.mk (OR12.out.imp fun _ h_ => show Kd.R _ _ w6 _ _ _ _ by rw [hw]; exact R_far7 h_ K10.out _ _ _ _ _ _ _)
    replace OR13 := Aside0.mk (OR13.out.imp fun _ h_ => show Kd.R _ _ w6 _ _ _ _ by rw [hw]; exact R_far7 h_ K10.out _ _ _ _ _ _ _)
    have B6 : Aside0 (Below w4.heap.size w4 w6) := ⟨by rw [hw]; exact below_set7 B5.out PP.out.1 0 _ _ _ _ _ _ _⟩
    have K10_6 : Aside0 (w6.heap[g10]? = some (.cells #[.int .i64 x.f0, .int .i64 x.f1, .int .i64 x.f2, .int .i64 x.f3, .int .i64 x.f4, .slice P5 (x.f5.take 70).length q5, .slice P6 (x.f6.take 20).length q6] 42 (0, 0))) := ⟨by rw [hw]; exact blk_put7 K10.out rfl _ _ _ _ _ _ _⟩
    have K11_6 : Aside0 (w6.heap[g11]? = some (.cells #[.int .i64 0, .int .i64 0, .int .i64 0, .int .i64 0, .int .i64 0, .slice none 0 0, .slice none 0 0] 42 (0, 0))) := ⟨by rw [hw]; exact blk_far7 K11.out (Ne.symm PP.out.2.2) 0 _ _ _ _ _ _ _⟩
    clear hw K10 K11 B5 r0 z0 r1 z1 r2 z2 r3 z3 r4 z4 r5 z5 r6 z6
    refine hK.out _ _ (hS _ B6.out) (fun hHeld => ?_)
    clear hK K
    have r0 : w6.cell? ⟨g11, 0, none⟩ = some (.int .i64 0) := (blk_cell K11_6.out 0).trans rfl
    have r1 : w6.cell? ⟨g11, 1, none⟩ = some (.int .i64 0) := (blk_cell K11_6.out 1).trans rfl
    have r2 : w6.cell? ⟨g11, 2, none⟩ = some (.int .i64 0) := (blk_cell K11_6.out 2).trans rfl
    have r3 : w6.cell? ⟨g11, 3, none⟩ = some (.int .i64 0) := (blk_cell K11_6.out 3).trans rfl
    have r4 : w6.cell? ⟨g11, 4, none⟩ = some (.int .i64 0) := (blk_cell K11_6.out 4).trans rfl
    have r5 : w6.cell? ⟨g11, 5, none⟩ = some (.slice none 0 0) := (blk_cell K11_6.out 5).trans rfl
    have r6 : w6.cell? ⟨g11, 6, none⟩ = some (.slice none 0 0) := (blk_cell K11_6.out 6).trans rfl
    have z0 := blk_frozen K11_6.out 0
    have z1 := blk_frozen K11_6.out 1
    have z2 := blk_frozen K11_6.out 2
    have z3 := blk_frozen K11_6.out 3
    have z4 := blk_frozen K11_6.out 4
    have z5 := blk_frozen K11_6.out 5
    have z6 := blk_frozen K11_6.out 6
    refine last_ (i := 9) (N := none) #[true, true, true, true, true, true, true, true, true, true] rfl rfl (one_of HT_.out (by kernel_rfl)) (by decide) (fun K hK => ?_)
    refine skipE_ (w1 := (((((((w6.setCell ⟨g11, 0, none⟩ (.int .i64 y.f0)).setCell ⟨g11, 1, none⟩ (.int .i64 y.f1)).setCell ⟨g11, 2, none⟩ (.int .i64 y.f2)).setCell ⟨g11, 3, none⟩ (.int .i64 y.f3)).setCell ⟨g11, 4, none⟩ (.int .i64 y.f4)).setCell ⟨g11, 5, none⟩ (.slice P12 (y.f5.take 70).length q12)).setCell ⟨g11, 6, none⟩ (.slice P13 (y.f6.take 20).length q13))) (by rfl) rfl (by first | (go_simp; done) | (go_simp; rfl)) (fun w7 hw => ?_)
    replace OR5 := Aside0.mk (OR5.out.imp fun _ h_ => show Kd.R _ _ w7 _ _ _ _ by rw [hw]; exact R_far7 h_ K11_6.out _ _ _ _ _ _ _)
    replace OR6 := Aside0.mk (OR6.out.imp fun _ h_ => show Kd.R _ _ w7 _ _ _ _ by rw [hw]; exact R_far7 h_ K11_6.out _ _ _ _ _ _ _)
    replace OR12 := Aside0.mk (OR12.out.imp fun _ h_ => show Kd.R _ _ w7 _ _ _ _ by rw [hw]; exact R_far7 h_ K11_6.out _ _ _ _ _ _ _)
    replace OR13 := Aside0.mk (OR13.out.imp fun _ h_ => show Kd.R _ _ w7 _ _ _ _ by rw [hw]; exact R_far7 h_ K11_6.out _ _ _ _ _ _ _)
    have B7 : Aside0 (Below w4.heap.size w4 w7) := ⟨by rw [hw]; exact below_set7 B6.out PP.out.2.1 0 _ _ _ _ _ _ _⟩
    have K11_7 : Aside0 (w7.heap[g11]? = some (.cells #[.int .i64 y.f0, .int .i64 y.f1, .int .i64 y.f2, .int .i64 y.f3, .int .i64 y.f4, .slice P12 (y.f5.take 70).length q12, .slice P13 (y.f6.take 20).length q13] 42 (0, 0))) := ⟨by rw [hw]; exact blk_put7 K11_6.out rfl _ _ _ _ _ _ _⟩
    have K10_7 : Aside0 (w7.heap[g10]? = some (.cells #[.int .i64 x.f0, .int .i64 x.f1, .int .i64 x.f2, .int .i64 x.f3, .int .i64 x.f4, .slice P5 (x.f5.take 70).length q5, .slice P6 (x.f6.take 20).length q6] 42 (0, 0))) := ⟨by rw [hw]; exact blk_far7 K10_6.out PP.out.2.2 0 _ _ _ _ _ _ _⟩
    clear hw K10_6 K11_6 B6 r0 z0 r1 z1 r2 z2 r3 z3 r4 z4 r5 z5 r6 z6
    refine hK.out _ _ ?_
    clear hK K
    refine done_ (done_of HT_.out (by kernel_rfl)) ?_
    clear hone1 hone2 hS hHeld HT_ HW_
    go_upto_region 5 with (fail)
    have FC_7 := Aside0.mk (Kd.C_below FC_4.out B7.out)
    have BB := Aside0.mk (Below.refl w7.heap.size w7)
    obtain ⟨b5_, h5_⟩ := OR5.out
    have RC5 := Aside0.mk (Kd.R_reads' h5_).2.2
    have RL5 := Aside0.mk (Kd.R_reads' h5_).2.1
    clear h5_ OR5
    obtain ⟨b6_, h6_⟩ := OR6.out
    have RC6 := Aside0.mk (Kd.R_reads' h6_).2.2
    have RL6 := Aside0.mk (Kd.R_reads' h6_).2.1
    clear h6_ OR6
    obtain ⟨b12_, h12_⟩ := OR12.out
    have RC12 := Aside0.mk (Kd.R_reads' h12_).2.2
    have RL12 := Aside0.mk (Kd.R_reads' h12_).2.1
    clear h12_ OR12
    obtain ⟨b13_, h13_⟩ := OR13.out
    have RC13 := Aside0.mk (Kd.R_reads' h13_).2.2
    have RL13 := Aside0.mk (Kd.R_reads' h13_).2.1
    clear h13_ OR13
    have small_ : ∀ c : S42, SmallC (oneS c) := fun c => ⟨by show (c.f5.take 70).length ≤ 1000; rw [List.length_take]; omega, by show (c.f6.take 20).length ≤ 1000; rw [List.length_take]; omega⟩
    obtain ⟨sb, hsb⟩ : ∃ b_, sameB (oneS x) (oneS y) = b_ := ⟨_, rfl⟩
    have HM1 : Aside0 (cyl_Same.f (0 + 1001) x.f0 x.f1 x.f2 x.f3 x.f4 (x.f5.take 70) (x.f6.take 20) y.f0 y.f1 y.f2 y.f3 y.f4 (y.f5.take 70) (y.f6.take 20) = some sb) := ⟨by rw [← hsb]; exact csame_is (oneS x) (oneS y) (small_ x) HIX.out HIY.out 0⟩
    have HM2 : Aside0 (selvedgeref18_Same.f (0 + 1001) x.f0 x.f1 x.f2 x.f3 x.f4 (x.f5.take 70) (x.f6.take 20) y.f0 y.f1 y.f2 y.f3 y.f4 (y.f5.take 70) (y.f6.take 20) = some sb) := ⟨by rw [← hsb]; exact rsameC_is (oneS x) (oneS y) (small_ x) 0⟩
    have HM3 : Aside0 (cyl_Same.f (0 + 1001) x.f0 x.f1 x.f2 x.f3 x.f4 (x.f5.take 70) (x.f6.take 20) x.f0 x.f1 x.f2 x.f3 x.f4 (x.f5.take 70) (x.f6.take 20) = some true) := ⟨by have h_ := csame_is (oneS x) (oneS x) (small_ x) HIX.out HIX.out 0; rw [sameB_self] at h_; exact h_⟩
    clear small_ hsb
    generalize x.f5.take 70 = t5 at K10_7 RC5 RL5 HM1 HM2 HM3
    generalize x.f6.take 20 = t6 at K10_7 RC6 RL6 HM1 HM2 HM3
    generalize y.f5.take 70 = t12 at K11_7 RC12 RL12 HM1 HM2
    generalize y.f6.take 20 = t13 at K11_7 RC13 RL13 HM1 HM2
    have hS : ∀ w', Below w7.heap.size w7 w' → w'.cell? ⟨g10, 0, none⟩ = some (.int .i64 x.f0) ∧ w'.cell? ⟨g10, 1, none⟩ = some (.int .i64 x.f1) ∧ w'.cell? ⟨g10, 2, none⟩ = some (.int .i64 x.f2) ∧ w'.cell? ⟨g10, 3, none⟩ = some (.int .i64 x.f3) ∧ w'.cell? ⟨g10, 4, none⟩ = some (.int .i64 x.f4) ∧ w'.cell? ⟨g10, 5, none⟩ = some (.slice P5 t5.length q5) ∧ w'.cell? ⟨g10, 6, none⟩ = some (.slice P6 t6.length q6) ∧ w'.cell? ⟨g11, 0, none⟩ = some (.int .i64 y.f0) ∧ w'.cell? ⟨g11, 1, none⟩ = some (.int .i64 y.f1) ∧ w'.cell? ⟨g11, 2, none⟩ = some (.int .i64 y.f2) ∧ w'.cell? ⟨g11, 3, none⟩ = some (.int .i64 y.f3) ∧ w'.cell? ⟨g11, 4, none⟩ = some (.int .i64 y.f4) ∧ w'.cell? ⟨g11, 5, none⟩ = some (.slice P12 t12.length q12) ∧ w'.cell? ⟨g11, 6, none⟩ = some (.slice P13 t13.length q13) := fun w' h_ => ⟨(blk_cell (blk_below K10_7.out h_) 0).trans rfl, (blk_cell (blk_below K10_7.out h_) 1).trans rfl, (blk_cell (blk_below K10_7.out h_) 2).trans rfl, (blk_cell (blk_below K10_7.out h_) 3).trans rfl, (blk_cell (blk_below K10_7.out h_) 4).trans rfl, (blk_cell (blk_below K10_7.out h_) 5).trans rfl, (blk_cell (blk_below K10_7.out h_) 6).trans rfl, (blk_cell (blk_below K11_7.out h_) 0).trans rfl, (blk_cell (blk_below K11_7.out h_) 1).trans rfl, (blk_cell (blk_below K11_7.out h_) 2).trans rfl, (blk_cell (blk_below K11_7.out h_) 3).trans rfl, (blk_cell (blk_below K11_7.out h_) 4).trans rfl, (blk_cell (blk_below K11_7.out h_) 5).trans rfl, (blk_cell (blk_below K11_7.out h_) 6).trans rfl⟩
    refine start_ (n := 33) (S := fun w' => w'.cell? ⟨g10, 0, none⟩ = some (.int .i64 x.f0) ∧ w'.cell? ⟨g10, 1, none⟩ = some (.int .i64 x.f1) ∧ w'.cell? ⟨g10, 2, none⟩ = some (.int .i64 x.f2) ∧ w'.cell? ⟨g10, 3, none⟩ = some (.int .i64 x.f3) ∧ w'.cell? ⟨g10, 4, none⟩ = some (.int .i64 x.f4) ∧ w'.cell? ⟨g10, 5, none⟩ = some (.slice P5 t5.length q5) ∧ w'.cell? ⟨g10, 6, none⟩ = some (.slice P6 t6.length q6) ∧ w'.cell? ⟨g11, 0, none⟩ = some (.int .i64 y.f0) ∧ w'.cell? ⟨g11, 1, none⟩ = some (.int .i64 y.f1) ∧ w'.cell? ⟨g11, 2, none⟩ = some (.int .i64 y.f2) ∧ w'.cell? ⟨g11, 3, none⟩ = some (.int .i64 y.f3) ∧ w'.cell? ⟨g11, 4, none⟩ = some (.int .i64 y.f4) ∧ w'.cell? ⟨g11, 5, none⟩ = some (.slice P12 t12.length q12) ∧ w'.cell? ⟨g11, 6, none⟩ = some (.slice P13 t13.length q13)) (ds := []) #[false, false, false, false, false, false, false, false, false, false, false, false, false, false, false, false, false, false, false, false, false, false, false, false, false, false, false, false, false, false, false, false, false] (by kernel_rfl) rfl rfl (hS _ (below_drew BB.out)) (fun hHeld => ?_); refine with_tabW co_tab5 co_bits5 (fun HT_ HW_ => ?_)
    refine one_ (i := 0) (N := some 30) #[true, false, false, false, false, false, false, false, false, false, false, false, false, false, false, false, false, false, false, false, false, false, false, false, false, false, false, false, false, false, false, false, false] rfl rfl (one_of HT_.out (by kernel_rfl)) (by decide) (fun K hK => ?_)
    refine goes_ Try.func17 (by kernel_rfl) rfl #[] (by rfl) rfl rfl (by simp only [List.map_toArray, List.map_nil]) ?_
    refine (selvedgelaw18_live.calls true _ rfl).mono ?_
    rintro e w8 ⟨rfl, hb⟩
    replace BB := Aside0.mk (below_step (below_drew BB.out) hb)
    clear hb
    refine ⟨_, rfl, ?_⟩
    refine hK.out _ _ (hS _ BB.out) (fun hHeld => ?_)
    clear hK K
    refine norm_ (a' := ?_) ?_ ?_
    rotate_left
    · simp only [Act.put, List.setIfInBounds_toArray, List.set_cons_zero, List.set_cons_succ]
      rfl
    refine pure_ (i := 1) (N := some 31) (v := ?_) (a' := ?_) #[true, true, false, false, false, false, false, false, false, false, false, false, false, false, false, false, false, false, false, false, false, false, false, false, false, false, false, false, false, false, false, false, false] rfl rfl (any_of HT_.out (by kernel_rfl)) (fun _ _ _ h => h) (Or.inl ⟨by rfl, ?_⟩) ?_ ?_
    rotate_left
    · intro w'
      go_simp
      with_reducible rfl
    rotate_left
    · simp only [Act.put, List.setIfInBounds_toArray, List.set_cons_zero, List.set_cons_succ]
      rfl
    refine pure_ (i := 2) (N := some 32) (v := ?_) (a' := ?_) #[true, true, true, false, false, false, false, false, false, false, false, false, false, false, false, false, false, false, false, false, false, false, false, false, false, false, false, false, false, false, false, false, false] rfl rfl (any_of HT_.out (by kernel_rfl)) (fun _ _ _ h => h) (Or.inl ⟨by rfl, ?_⟩) ?_ ?_
    rotate_left
    · intro w'
      go_simp
      with_reducible rfl
    rotate_left
    · simp only [Act.put, List.setIfInBounds_toArray, List.set_cons_zero, List.set_cons_succ]
      rfl
    refine pure_ (i := 3) (N := some 33) (v := ?_) (a' := ?_) #[true, true, true, true, false, false, false, false, false, false, false, false, false, false, false, false, false, false, false, false, false, false, false, false, false, false, false, false, false, false, false, false, false] rfl rfl (any_of HT_.out (by kernel_rfl)) (fun _ _ _ h => h) (Or.inl ⟨by rfl, ?_⟩) ?_ ?_
    rotate_left
    · intro w'
      go_simp
      with_reducible rfl
    rotate_left
    · simp only [Act.put, List.setIfInBounds_toArray, List.set_cons_zero, List.set_cons_succ]
      rfl
    refine pure_ (i := 4) (N := some 34) (v := ?_) (a' := ?_) #[true, true, true, true, true, false, false, false, false, false, false, false, false, false, false, false, false, false, false, false, false, false, false, false, false, false, false, false, false, false, false, false, false] rfl rfl (any_of HT_.out (by kernel_rfl)) (fun _ _ _ h => h) (Or.inl ⟨by rfl, ?_⟩) ?_ ?_
    rotate_left
    · intro w'
      go_simp
      with_reducible rfl
    rotate_left
    · simp only [Act.put, List.setIfInBounds_toArray, List.set_cons_zero, List.set_cons_succ]
      rfl
    refine pure_ (i := 5) (N := some 35) (v := ?_) (a' := ?_) #[true, true, true, true, true, true, false, false, false, false, false, false, false, false, false, false, false, false, false, false, false, false, false, false, false, false, false, false, false, false, false, false, false] rfl rfl (any_of HT_.out (by kernel_rfl)) (fun _ _ _ h => h) (Or.inl ⟨by rfl, ?_⟩) ?_ ?_
    rotate_left
    · intro w'
      go_simp
      with_reducible rfl
    rotate_left
    · simp only [Act.put, List.setIfInBounds_toArray, List.set_cons_zero, List.set_cons_succ]
      rfl
    refine pure_ (i := 6) (N := some 36) (v := ?_) (a' := ?_) #[true, true, true, true, true, true, true, false, false, false, false, false, false, false, false, false, false, false, false, false, false, false, false, false, false, false, false, false, false, false, false, false, false] rfl rfl (any_of HT_.out (by kernel_rfl)) (fun _ _ _ h => h) (Or.inl ⟨by rfl, ?_⟩) ?_ ?_
    rotate_left
    · intro w'
      go_simp
      with_reducible rfl
    rotate_left
    · simp only [Act.put, List.setIfInBounds_toArray, List.set_cons_zero, List.set_cons_succ]
      rfl
    refine pure_ (i := 7) (N := some 37) (v := ?_) (a' := ?_) #[true, true, true, true, true, true, true, true, false, false, false, false, false, false, false, false, false, false, false, false, false, false, false, false, false, false, false, false, false, false, false, false, false] rfl rfl (any_of HT_.out (by kernel_rfl)) (fun _ _ _ h => h) (Or.inl ⟨by rfl, ?_⟩) ?_ ?_
    rotate_left
    · intro w'
      go_simp
      with_reducible rfl
    rotate_left
    · simp only [Act.put, List.setIfInBounds_toArray, List.set_cons_zero, List.set_cons_succ]
      rfl
    refine pure_ (i := 8) (N := some 38) (v := ?_) (a' := ?_) #[true, true, true, true, true, true, true, true, true, false, false, false, false, false, false, false, false, false, false, false, false, false, false, false, false, false, false, false, false, false, false, false, false] rfl rfl (any_of HT_.out (by kernel_rfl)) (fun _ _ _ h => h) (Or.inl ⟨by rfl, ?_⟩) ?_ ?_
    rotate_left
    · intro w'
      go_simp
      with_reducible rfl
    rotate_left
    · simp only [Act.put, List.setIfInBounds_toArray, List.set_cons_zero, List.set_cons_succ]
      rfl
    refine pure_ (i := 9) (N := some 39) (v := ?_) (a' := ?_) #[true, true, true, true, true, true, true, true, true, true, false, false, false, false, false, false, false, false, false, false, false, false, false, false, false, false, false, false, false, false, false, false, false] rfl rfl (any_of HT_.out (by kernel_rfl)) (fun _ _ _ h => h) (Or.inl ⟨by rfl, ?_⟩) ?_ ?_
    rotate_left
    · intro w'
      go_simp
      with_reducible rfl
    rotate_left
    · simp only [Act.put, List.setIfInBounds_toArray, List.set_cons_zero, List.set_cons_succ]
      rfl
    refine pure_ (i := 10) (N := some 40) (v := ?_) (a' := ?_) #[true, true, true, true, true, true, true, true, true, true, true, false, false, false, false, false, false, false, false, false, false, false, false, false, false, false, false, false, false, false, false, false, false] rfl rfl (any_of HT_.out (by kernel_rfl)) (fun _ _ _ h => h) (Or.inl ⟨by rfl, ?_⟩) ?_ ?_
    rotate_left
    · intro w'
      go_simp
      with_reducible rfl
    rotate_left
    · simp only [Act.put, List.setIfInBounds_toArray, List.set_cons_zero, List.set_cons_succ]
      rfl
    refine pure_ (i := 11) (N := some 41) (v := ?_) (a' := ?_) #[true, true, true, true, true, true, true, true, true, true, true, true, false, false, false, false, false, false, false, false, false, false, false, false, false, false, false, false, false, false, false, false, false] rfl rfl (any_of HT_.out (by kernel_rfl)) (fun _ _ _ h => h) (Or.inl ⟨by rfl, ?_⟩) ?_ ?_
    rotate_left
    · intro w'
      go_simp
      with_reducible rfl
    rotate_left
    · simp only [Act.put, List.setIfInBounds_toArray, List.set_cons_zero, List.set_cons_succ]
      rfl
    refine pure_ (i := 12) (N := some 42) (v := ?_) (a' := ?_) #[true, true, true, true, true, true, true, true, true, true, true, true, true, false, false, false, false, false, false, false, false, false, false, false, false, false, false, false, false, false, false, false, false] rfl rfl (any_of HT_.out (by kernel_rfl)) (fun _ _ _ h => h) (Or.inl ⟨by rfl, ?_⟩) ?_ ?_
    rotate_left
    · intro w'
      go_simp
      with_reducible rfl
    rotate_left
    · simp only [Act.put, List.setIfInBounds_toArray, List.set_cons_zero, List.set_cons_succ]
      rfl
    refine pure_ (i := 14) (N := some 44) (v := ?_) (a' := ?_) #[true, true, true, true, true, true, true, true, true, true, true, true, true, false, true, false, false, false, false, false, false, false, false, false, false, false, false, false, false, false, false, false, false] rfl rfl (any_of HT_.out (by kernel_rfl)) (fun _ _ _ h => h) (Or.inl ⟨by rfl, ?_⟩) ?_ ?_
    rotate_left
    · intro w'
      go_simp
      with_reducible rfl
    rotate_left
    · simp only [Act.put, List.setIfInBounds_toArray, List.set_cons_zero, List.set_cons_succ]
      rfl
    refine one_ (i := 13) (N := some 43) #[true, true, true, true, true, true, true, true, true, true, true, true, true, true, true, false, false, false, false, false, false, false, false, false, false, false, false, false, false, false, false, false, false] rfl rfl (one_of HT_.out (by kernel_rfl)) (by decide) (fun K hK => ?_)
    refine goes_ Try.func26 (by kernel_rfl) rfl #[.slice Af F.length cf] (by rfl) rfl rfl (by simp only [List.map_toArray, List.map_cons, List.map_nil]; rfl) ?_
    refine (cyl_Spread.calls (0 + 2005) Af cf F sp _ (Kd.C_below FC_7.out BB.out) FL.out HP1.out).mono ?_
    rintro e w8 ⟨rfl, hb⟩
    replace BB := Aside0.mk (below_step BB.out hb)
    clear hb
    refine ⟨_, rfl, ?_⟩
    refine hK.out _ _ (hS _ BB.out) (fun hHeld => ?_)
    clear hK K
    refine norm_ (a' := ?_) ?_ ?_
    rotate_left
    · simp only [Act.put, List.setIfInBounds_toArray, List.set_cons_zero, List.set_cons_succ]
      rfl
    refine one_ (i := 15) (N := some 45) #[true, true, true, true, true, true, true, true, true, true, true, true, true, true, true, true, false, false, false, false, false, false, false, false, false, false, false, false, false, false, false, false, false] rfl rfl (one_of HT_.out (by kernel_rfl)) (by decide) (fun K hK => ?_)
    refine goes_ Try.func27 (by kernel_rfl) rfl #[.slice Af F.length cf] (by rfl) rfl rfl (by simp only [List.map_toArray, List.map_cons, List.map_nil]; rfl) ?_
    refine (selvedgeref18_Spread.calls (0 + 3004) Af cf F sp _ (Kd.C_below FC_7.out BB.out) FL.out HP2.out).mono ?_
    rintro e w8 ⟨rfl, hb⟩
    replace BB := Aside0.mk (below_step BB.out hb)
    clear hb
    refine ⟨_, rfl, ?_⟩
    refine hK.out _ _ (hS _ BB.out) (fun hHeld => ?_)
    clear hK K
    refine norm_ (a' := ?_) ?_ ?_
    rotate_left
    · simp only [Act.put, List.setIfInBounds_toArray, List.set_cons_zero, List.set_cons_succ]
      rfl
    refine pure_ (i := 16) (N := some 46) (v := ?_) (a' := ?_) #[true, true, true, true, true, true, true, true, true, true, true, true, true, true, true, true, true, false, false, false, false, false, false, false, false, false, false, false, false, false, false, false, false] rfl rfl (any_of HT_.out (by kernel_rfl)) (fun _ _ _ h => h) (Or.inl ⟨by rfl, ?_⟩) ?_ ?_
    rotate_left
    · intro w'
      go_simp
      with_reducible rfl
    rotate_left
    · simp only [Act.put, List.setIfInBounds_toArray, List.set_cons_zero, List.set_cons_succ]
      rfl
    refine pure_ (i := 17) (N := some 47) (v := ?_) (a' := ?_) #[true, true, true, true, true, true, true, true, true, true, true, true, true, true, true, true, true, true, false, false, false, false, false, false, false, false, false, false, false, false, false, false, false] rfl rfl (any_of HT_.out (by kernel_rfl)) (fun _ _ _ h => h) (Or.inl ⟨by rfl, ?_⟩) ?_ ?_
    rotate_left
    · intro w'
      go_simp
      with_reducible rfl
    rotate_left
    · simp only [Act.put, List.setIfInBounds_toArray, List.set_cons_zero, List.set_cons_succ]
      rfl
    refine pure_ (i := 18) (N := some 48) (v := ?_) (a' := ?_) #[true, true, true, true, true, true, true, true, true, true, true, true, true, true, true, true, true, true, true, false, false, false, false, false, false, false, false, false, false, false, false, false, false] rfl rfl (any_of HT_.out (by kernel_rfl)) (fun _ _ _ h => h) (Or.inl ⟨by rfl, ?_⟩) ?_ ?_
    rotate_left
    · intro w'
      go_simp
      with_reducible rfl
    rotate_left
    · simp only [Act.put, List.setIfInBounds_toArray, List.set_cons_zero, List.set_cons_succ]
      rfl
    refine take_ (i := 19) (N := some 49) (v := ?_) (a' := ?_) #[true, true, true, true, true, true, true, true, true, true, true, true, true, true, true, true, true, true, true, true, false, false, false, false, false, false, false, false, false, false, false, false, false] rfl rfl (take_ofW HT_.out HW_.out (by kernel_rfl)) (fun _ _ _ h => h) (Or.inl ⟨by rfl, ?_⟩) hHeld ?_ ?_
    rotate_left
    · rintro w' ⟨s0, s1, s2, s3, s4, s5, s6, s7, s8, s9, s10, s11, s12, s13⟩
      go_simp
      with_reducible rfl
    rotate_left
    · simp only [Act.put, List.setIfInBounds_toArray, List.set_cons_zero, List.set_cons_succ]
      rfl
    refine take_ (i := 20) (N := some 50) (v := ?_) (a' := ?_) #[true, true, true, true, true, true, true, true, true, true, true, true, true, true, true, true, true, true, true, true, true, false, false, false, false, false, false, false, false, false, false, false, false] rfl rfl (take_ofW HT_.out HW_.out (by kernel_rfl)) (fun _ _ _ h => h) (Or.inl ⟨by rfl, ?_⟩) hHeld ?_ ?_
    rotate_left
    · rintro w' ⟨s0, s1, s2, s3, s4, s5, s6, s7, s8, s9, s10, s11, s12, s13⟩
      go_simp
      with_reducible rfl
    rotate_left
    · simp only [Act.put, List.setIfInBounds_toArray, List.set_cons_zero, List.set_cons_succ]
      rfl
    refine take_ (i := 22) (N := some 52) (v := ?_) (a' := ?_) #[true, true, true, true, true, true, true, true, true, true, true, true, true, true, true, true, true, true, true, true, true, false, true, false, false, false, false, false, false, false, false, false, false] rfl rfl (take_ofW HT_.out HW_.out (by kernel_rfl)) (fun _ _ _ h => h) (Or.inl ⟨by rfl, ?_⟩) hHeld ?_ ?_
    rotate_left
    · rintro w' ⟨s0, s1, s2, s3, s4, s5, s6, s7, s8, s9, s10, s11, s12, s13⟩
      go_simp
      with_reducible rfl
    rotate_left
    · simp only [Act.put, List.setIfInBounds_toArray, List.set_cons_zero, List.set_cons_succ]
      rfl
    refine take_ (i := 23) (N := some 53) (v := ?_) (a' := ?_) #[true, true, true, true, true, true, true, true, true, true, true, true, true, true, true, true, true, true, true, true, true, false, true, true, false, false, false, false, false, false, false, false, false] rfl rfl (take_ofW HT_.out HW_.out (by kernel_rfl)) (fun _ _ _ h => h) (Or.inl ⟨by rfl, ?_⟩) hHeld ?_ ?_
    rotate_left
    · rintro w' ⟨s0, s1, s2, s3, s4, s5, s6, s7, s8, s9, s10, s11, s12, s13⟩
      go_simp
      with_reducible rfl
    rotate_left
    · simp only [Act.put, List.setIfInBounds_toArray, List.set_cons_zero, List.set_cons_succ]
      rfl
    refine one_ (i := 21) (N := some 51) #[true, true, true, true, true, true, true, true, true, true, true, true, true, true, true, true, true, true, true, true, true, true, true, true, false, false, false, false, false, false, false, false, false] rfl rfl (one_of HT_.out (by kernel_rfl)) (by decide) (fun K hK => ?_)
    refine goes_ Try.func28 (by kernel_rfl) rfl #[.agg #[.int .i64 x.f0, .int .i64 x.f1, .int .i64 x.f2, .int .i64 x.f3, .int .i64 x.f4, .slice P5 t5.length q5, .slice P6 t6.length q6], .agg #[.int .i64 y.f0, .int .i64 y.f1, .int .i64 y.f2, .int .i64 y.f3, .int .i64 y.f4, .slice P12 t12.length q12, .slice P13 t13.length q13]] (by rfl) rfl rfl (by simp only [List.map_toArray, List.map_cons, List.map_nil]; rfl) ?_
    refine (cyl_Same.calls (0 + 1001) x.f0 x.f1 x.f2 x.f3 x.f4 P5 q5 t5 P6 q6 t6 y.f0 y.f1 y.f2 y.f3 y.f4 P12 q12 t12 P13 q13 t13 sb _ (Kd.C_below RC5.out BB.out) RL5.out (Kd.C_below RC6.out BB.out) RL6.out (Kd.C_below RC12.out BB.out) RL12.out (Kd.C_below RC13.out BB.out) RL13.out HM1.out).mono ?_
    rintro e w8 ⟨rfl, hb⟩
    replace BB := Aside0.mk (below_step BB.out hb)
    clear hb
    refine ⟨_, rfl, ?_⟩
    refine hK.out _ _ (hS _ BB.out) (fun hHeld => ?_)
    clear hK K
    refine norm_ (a' := ?_) ?_ ?_
    rotate_left
    · simp only [Act.put, List.setIfInBounds_toArray, List.set_cons_zero, List.set_cons_succ]
      rfl
    refine one_ (i := 24) (N := some 54) #[true, true, true, true, true, true, true, true, true, true, true, true, true, true, true, true, true, true, true, true, true, true, true, true, true, false, false, false, false, false, false, false, false] rfl rfl (one_of HT_.out (by kernel_rfl)) (by decide) (fun K hK => ?_)
    refine goes_ Try.func29 (by kernel_rfl) rfl #[.agg #[.int .i64 x.f0, .int .i64 x.f1, .int .i64 x.f2, .int .i64 x.f3, .int .i64 x.f4, .slice P5 t5.length q5, .slice P6 t6.length q6], .agg #[.int .i64 y.f0, .int .i64 y.f1, .int .i64 y.f2, .int .i64 y.f3, .int .i64 y.f4, .slice P12 t12.length q12, .slice P13 t13.length q13]] (by rfl) rfl rfl (by simp only [List.map_toArray, List.map_cons, List.map_nil]; rfl) ?_
    refine (selvedgeref18_Same.calls (0 + 1001) x.f0 x.f1 x.f2 x.f3 x.f4 P5 q5 t5 P6 q6 t6 y.f0 y.f1 y.f2 y.f3 y.f4 P12 q12 t12 P13 q13 t13 sb _ (Kd.C_below RC5.out BB.out) RL5.out (Kd.C_below RC6.out BB.out) RL6.out (Kd.C_below RC12.out BB.out) RL12.out (Kd.C_below RC13.out BB.out) RL13.out HM2.out).mono ?_
    rintro e w8 ⟨rfl, hb⟩
    replace BB := Aside0.mk (below_step BB.out hb)
    clear hb
    refine ⟨_, rfl, ?_⟩
    refine hK.out _ _ (hS _ BB.out) (fun hHeld => ?_)
    clear hK K
    refine norm_ (a' := ?_) ?_ ?_
    rotate_left
    · simp only [Act.put, List.setIfInBounds_toArray, List.set_cons_zero, List.set_cons_succ]
      rfl
    refine pure_ (i := 25) (N := some 55) (v := ?_) (a' := ?_) #[true, true, true, true, true, true, true, true, true, true, true, true, true, true, true, true, true, true, true, true, true, true, true, true, true, true, false, false, false, false, false, false, false] rfl rfl (any_of HT_.out (by kernel_rfl)) (fun _ _ _ h => h) (Or.inl ⟨by rfl, ?_⟩) ?_ ?_
    rotate_left
    · intro w'
      go_simp
      with_reducible rfl
    rotate_left
    · simp only [Act.put, List.setIfInBounds_toArray, List.set_cons_zero, List.set_cons_succ]
      rfl
    refine pure_ (i := 26) (N := some 56) (v := ?_) (a' := ?_) #[true, true, true, true, true, true, true, true, true, true, true, true, true, true, true, true, true, true, true, true, true, true, true, true, true, true, true, false, false, false, false, false, false] rfl rfl (any_of HT_.out (by kernel_rfl)) (fun _ _ _ h => h) (Or.inl ⟨by rfl, ?_⟩) ?_ ?_
    rotate_left
    · intro w'
      go_simp
      with_reducible rfl
    rotate_left
    · simp only [Act.put, List.setIfInBounds_toArray, List.set_cons_zero, List.set_cons_succ]
      rfl
    refine pure_ (i := 27) (N := some 57) (v := ?_) (a' := ?_) #[true, true, true, true, true, true, true, true, true, true, true, true, true, true, true, true, true, true, true, true, true, true, true, true, true, true, true, true, false, false, false, false, false] rfl rfl (any_of HT_.out (by kernel_rfl)) (fun _ _ _ h => h) (Or.inl ⟨by rfl, ?_⟩) ?_ ?_
    rotate_left
    · intro w'
      go_simp
      with_reducible rfl
    rotate_left
    · simp only [Act.put, List.setIfInBounds_toArray, List.set_cons_zero, List.set_cons_succ]
      rfl
    refine take_ (i := 28) (N := some 58) (v := ?_) (a' := ?_) #[true, true, true, true, true, true, true, true, true, true, true, true, true, true, true, true, true, true, true, true, true, true, true, true, true, true, true, true, true, false, false, false, false] rfl rfl (take_ofW HT_.out HW_.out (by kernel_rfl)) (fun _ _ _ h => h) (Or.inl ⟨by rfl, ?_⟩) hHeld ?_ ?_
    rotate_left
    · rintro w' ⟨s0, s1, s2, s3, s4, s5, s6, s7, s8, s9, s10, s11, s12, s13⟩
      go_simp
      with_reducible rfl
    rotate_left
    · simp only [Act.put, List.setIfInBounds_toArray, List.set_cons_zero, List.set_cons_succ]
      rfl
    refine take_ (i := 29) (N := some 59) (v := ?_) (a' := ?_) #[true, true, true, true, true, true, true, true, true, true, true, true, true, true, true, true, true, true, true, true, true, true, true, true, true, true, true, true, true, true, false, false, false] rfl rfl (take_ofW HT_.out HW_.out (by kernel_rfl)) (fun _ _ _ h => h) (Or.inl ⟨by rfl, ?_⟩) hHeld ?_ ?_
    rotate_left
    · rintro w' ⟨s0, s1, s2, s3, s4, s5, s6, s7, s8, s9, s10, s11, s12, s13⟩
      go_simp
      with_reducible rfl
    rotate_left
    · simp only [Act.put, List.setIfInBounds_toArray, List.set_cons_zero, List.set_cons_succ]
      rfl
    refine one_ (i := 30) (N := some 60) #[true, true, true, true, true, true, true, true, true, true, true, true, true, true, true, true, true, true, true, true, true, true, true, true, true, true, true, true, true, true, true, false, false] rfl rfl (one_of HT_.out (by kernel_rfl)) (by decide) (fun K hK => ?_)
    refine goes_ Try.func28 (by kernel_rfl) rfl #[.agg #[.int .i64 x.f0, .int .i64 x.f1, .int .i64 x.f2, .int .i64 x.f3, .int .i64 x.f4, .slice P5 t5.length q5, .slice P6 t6.length q6], .agg #[.int .i64 x.f0, .int .i64 x.f1, .int .i64 x.f2, .int .i64 x.f3, .int .i64 x.f4, .slice P5 t5.length q5, .slice P6 t6.length q6]] (by rfl) rfl rfl (by simp only [List.map_toArray, List.map_cons, List.map_nil]; rfl) ?_
    refine (cyl_Same.calls (0 + 1001) x.f0 x.f1 x.f2 x.f3 x.f4 P5 q5 t5 P6 q6 t6 x.f0 x.f1 x.f2 x.f3 x.f4 P5 q5 t5 P6 q6 t6 true _ (Kd.C_below RC5.out BB.out) RL5.out (Kd.C_below RC6.out BB.out) RL6.out (Kd.C_below RC5.out BB.out) RL5.out (Kd.C_below RC6.out BB.out) RL6.out HM3.out).mono ?_
    rintro e w8 ⟨rfl, hb⟩
    replace BB := Aside0.mk (below_step BB.out hb)
    clear hb
    refine ⟨_, rfl, ?_⟩
    refine hK.out _ _ (hS _ BB.out) (fun hHeld => ?_)
    clear hK K
    refine norm_ (a' := ?_) ?_ ?_
    rotate_left
    · simp only [Act.put, List.setIfInBounds_toArray, List.set_cons_zero, List.set_cons_succ]
      rfl
    refine pure_ (i := 31) (N := some 61) (v := ?_) (a' := ?_) #[true, true, true, true, true, true, true, true, true, true, true, true, true, true, true, true, true, true, true, true, true, true, true, true, true, true, true, true, true, true, true, true, false] rfl rfl (any_of HT_.out (by kernel_rfl)) (fun _ _ _ h => h) (Or.inl ⟨by rfl, ?_⟩) ?_ ?_
    rotate_left
    · intro w'
      go_simp
      with_reducible rfl
    rotate_left
    · simp only [Act.put, List.setIfInBounds_toArray, List.set_cons_zero, List.set_cons_succ]
      rfl
    refine pure_ (i := 32) (N := some 4) (v := ?_) (a' := ?_) #[true, true, true, true, true, true, true, true, true, true, true, true, true, true, true, true, true, true, true, true, true, true, true, true, true, true, true, true, true, true, true, true, true] rfl rfl (any_of HT_.out (by kernel_rfl)) (fun _ _ _ h => h) (Or.inl ⟨by rfl, ?_⟩) ?_ ?_
    rotate_left
    · intro w'
      go_simp
      with_reducible rfl
    rotate_left
    · simp only [Act.put, List.setIfInBounds_toArray, List.set_cons_zero, List.set_cons_succ]
      rfl
    refine done_ (done_of HT_.out (by kernel_rfl)) ?_
    go_wp2
    go_ret
    exact ⟨rfl, below_step (below_step HB4.out B7.out) BB.out⟩
instance (x : Int) : Decidable (I64 x) := by unfold I64; exact inferInstance
instance (c : S42) : Decidable (IntsC c) := by unfold IntsC; exact inferInstance
def selvedgelaw18_CylCounts.f (k : Nat) (l0 : List (S42)) (a1_0 : Int) (a1_1 : Int) (a1_2 : Int) (a1_3 : Int) (a1_4 : Int) (l1_5 : List Int) (l1_6 : List Int) (a1_7 : Int) (a1_8 : Int) (a1_9 : Int) (a1_10 : Int) (a1_11 : Int) (l1_12 : List Int) (l1_13 : List Int) : Option (Bool) := if IntsC ⟨a1_0, a1_1, a1_2, a1_3, a1_4, l1_5, l1_6⟩ ∧ IntsC ⟨a1_7, a1_8, a1_9, a1_10, a1_11, l1_12, l1_13⟩ then some true else none
theorem selvedgelaw18_CylCounts.calls (k : Nat) (A0 : Option Addr) (c0 : Nat) (l0 : List (S42)) (a1_0 : Int) (a1_1 : Int) (a1_2 : Int) (a1_3 : Int) (a1_4 : Int) (A1_5 : Option Addr) (c1_5 : Nat) (l1_5 : List Int) (A1_6 : Option Addr) (c1_6 : Nat) (l1_6 : List Int) (a1_7 : Int) (a1_8 : Int) (a1_9 : Int) (a1_10 : Int) (a1_11 : Int) (A1_12 : Option Addr) (c1_12 : Nat) (l1_12 : List Int) (A1_13 : Option Addr) (c1_13 : Nat) (l1_13 : List Int) (r : Bool) (w : World) (hr0 : Kd.C k42 w A0 l0.length l0) (hc0 : l0.length ≤ c0) (hr1_5 : Kd.C (Kd.int .i64) w A1_5 l1_5.length l1_5) (hc1_5 : l1_5.length ≤ c1_5) (hr1_6 : Kd.C (Kd.int .i64) w A1_6 l1_6.length l1_6) (hc1_6 : l1_6.length ≤ c1_6) (hr1_12 : Kd.C (Kd.int .i64) w A1_12 l1_12.length l1_12) (hc1_12 : l1_12.length ≤ c1_12) (hr1_13 : Kd.C (Kd.int .i64) w A1_13 l1_13.length l1_13) (hc1_13 : l1_13.length ≤ c1_13) (h : selvedgelaw18_CylCounts.f k l0 a1_0 a1_1 a1_2 a1_3 a1_4 l1_5 l1_6 a1_7 a1_8 a1_9 a1_10 a1_11 l1_12 l1_13 = some r) :
    Calls Try.prog 6 #[.slice A0 l0.length c0, .agg #[.int .i64 a1_0, .int .i64 a1_1, .int .i64 a1_2, .int .i64 a1_3, .int .i64 a1_4, .slice A1_5 l1_5.length c1_5, .slice A1_6 l1_6.length c1_6, .int .i64 a1_7, .int .i64 a1_8, .int .i64 a1_9, .int .i64 a1_10, .int .i64 a1_11, .slice A1_12 l1_12.length c1_12, .slice A1_13 l1_13.length c1_13]] w fun e w' => e = .returned (.bool r) ∧ Below w.heap.size w w' := by
  unfold selvedgelaw18_CylCounts.f at h
  by_cases hh : IntsC ⟨a1_0, a1_1, a1_2, a1_3, a1_4, l1_5, l1_6⟩ ∧ IntsC ⟨a1_7, a1_8, a1_9, a1_10, a1_11, l1_12, l1_13⟩
  · rw [if_pos hh] at h
    obtain rfl := Option.some.inj h
    exact counts_walk A0 c0 l0 ⟨a1_0, a1_1, a1_2, a1_3, a1_4, l1_5, l1_6⟩ ⟨a1_7, a1_8, a1_9, a1_10, a1_11, l1_12, l1_13⟩ A1_5 c1_5 A1_6 c1_6 A1_12 c1_12 A1_13 c1_13 w hr0 hc0 hr1_5 hc1_5 hr1_6 hc1_6 hr1_12 hc1_12 hr1_13 hc1_13 hh.1 hh.2
  · rw [if_neg hh] at h
    cases h
end Go.Proofs.Ytehjmmedghcndaa.PG
