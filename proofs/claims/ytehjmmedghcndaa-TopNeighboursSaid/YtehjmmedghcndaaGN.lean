import Derived.Test.YtehjmmedghcndaaPGx0
import Derived.Test.YtehjmmedghcndaaG2
import Derived.Test.YtehjmmedghcndaaCU
import Derived.Test.YtehjmmedghcndaaLT
namespace Go.Proofs.Ytehjmmedghcndaa.PG
open Go.RowKit Go.Proofs.YtehjmmedghcndaaW.PrintWords Go.Proofs.YtehjmmedghcndaaW.PrintLast Go.Proofs.YtehjmmedghcndaaW.PrintMore
attribute [local go_sem] max2_int min2_int max_two min_two max_three min_three max_four min_four run_store_one   -- for this text's walks alone
set_option linter.unusedVariables false
set_option linter.unusedSimpArgs false
/-! ### selvedgetop_TopNeighbours: function 11 -/
mutual
def selvedgetop_TopNeighbours.l0 : Nat → Int → List (S42) → Int → Int → Int → Int → Option (Bool)
 | 0, _, _, _, _, _, _ => none
 | k + 1, x1, x5, x6, x930000, x930001, x930002 => if x6 < 3 then (if x6 = 0 then ((cyl_New.f k x6 (wrap64 ((Int.tmod (wrap64 (x930000)) 30) + 1))).bind fun bt930 => (if bt930.2.2.2.2.2.2.2 = 0 then (if x5.length < 1599289640401 then (selvedgetop_TopNeighbours.l0 k x1 (x5 ++ [(⟨bt930.1, bt930.2.1, bt930.2.2.1, bt930.2.2.2.1, bt930.2.2.2.2.1, bt930.2.2.2.2.2.1, bt930.2.2.2.2.2.2.1⟩ : S42)]) (wrap64 (x6 + 1)) x930000 x930001 x930002) else (none)) else (none))) else (if x6 = 1 then ((cyl_New.f k x6 (wrap64 ((Int.tmod (wrap64 (x930001)) 30) + 1))).bind fun bt946 => (if bt946.2.2.2.2.2.2.2 = 0 then (if x5.length < 1599289640401 then (selvedgetop_TopNeighbours.l0 k x1 (x5 ++ [(⟨bt946.1, bt946.2.1, bt946.2.2.1, bt946.2.2.2.1, bt946.2.2.2.2.1, bt946.2.2.2.2.2.1, bt946.2.2.2.2.2.2.1⟩ : S42)]) (wrap64 (x6 + 1)) x930000 x930001 x930002) else (none)) else (none))) else (if x6 = 2 then ((cyl_New.f k x6 (wrap64 ((Int.tmod (wrap64 (x930002)) 30) + 1))).bind fun bt962 => (if bt962.2.2.2.2.2.2.2 = 0 then (if x5.length < 1599289640401 then (selvedgetop_TopNeighbours.l0 k x1 (x5 ++ [(⟨bt962.1, bt962.2.1, bt962.2.2.1, bt962.2.2.2.1, bt962.2.2.2.2.1, bt962.2.2.2.2.2.1, bt962.2.2.2.2.2.2.1⟩ : S42)]) (wrap64 (x6 + 1)) x930000 x930001 x930002) else (none)) else (none))) else (none)))) else (if 0 ≤ (Int.tmod (wrap64 (x1)) 3) then (if (Int.tmod (wrap64 (x1)) 3) < (x5.length : Int) then (selvedgetop_TopNeighbours.l1 k x5 (Int.tmod (wrap64 (x1)) 3) ((rd_T42 x5 (Int.tmod (wrap64 (x1)) 3)).f1) 0 (Int.tmod (wrap64 (x1)) 3) 0) else (none)) else (none))
def selvedgetop_TopNeighbours.l1 : Nat → List (S42) → Int → Int → Int → Int → Int → Option (Bool)
 | 0, _, _, _, _, _, _ => none
 | k + 1, x5, x9, x11, x12, x979000, x979001 => if x12 < x11 then ((cyl_Take.f x5 x979000 x979001).bind fun bt980 => (if bt980.2.2.2 = 0 then (if bt980.2.1 = x9 then (if bt980.2.2.1 = x12 then (selvedgetop_TopNeighbours.l1 k bt980.1 x9 x11 (wrap64 (x12 + 1)) bt980.2.1 bt980.2.2.1) else (none)) else (none)) else (none))) else ((cyl_Take.f x5 x979000 x979001).bind fun bt987 => (if bt987.2.2.2 = 0 then (if bt987.2.1 = (Int.tmod (wrap64 (x9 + 1)) 3) then ((cyl_Whole.f k bt987.1).bind fun t994 => (if t994 = true then (if 0 ≤ x9 then (if x9 < (x5.length : Int) then (if ((rd_T42 x5 x9).f2) = 0 then (some true) else (none)) else (none)) else (none)) else (none))) else (none)) else (none)))
end
def selvedgetop_TopNeighbours.f (k : Nat) (a0_0 : Int) (a0_1 : Int) (a0_2 : Int) (a1 : Int) : Option (Bool) := selvedgetop_TopNeighbours.l0 k a1 ([] : List (S42)) 0 a0_0 a0_1 a0_2
set_option maxHeartbeats 8000000 in
set_option maxRecDepth 100000 in
theorem selvedgetop_TopNeighbours.calls (k : Nat) (a0_0 : Int) (a0_1 : Int) (a0_2 : Int) (a1 : Int) (r : Bool) (w : World) (h : selvedgetop_TopNeighbours.f k a0_0 a0_1 a0_2 a1 = some r) :
  Calls Try.prog 11 #[.agg #[.int .u8 a0_0, .int .u8 a0_1, .int .u8 a0_2], .int .u8 a1] w fun e w' => e = .returned (.bool r) ∧ Below w.heap.size w w' := by
 have hu65 := Try.underlying65
 have hu42 := Try.underlying42
 have hu24 := Try.underlying24
 have HB := Aside0.mk (Below.refl w.heap.size w)
 have H : (selvedgetop_TopNeighbours.l0 k a1 ([] : List (S42)) 0 a0_0 a0_1 a0_2) = some r := h
 clear h
 have H' := Aside0.mk H
 clear H
 go_enter Try.func11, Try.ntmps11
 go_wp2_with (first | ((with_reducible refine gate_dst (N := 2) rfl ?_); refine box_event rfl (N := 2) rfl (cs := #[.int .u8 a0_0, .int .u8 a0_1, .int .u8 a0_2]) (t := 65) (by first | (go_simp; done) | (go_simp; rfl)) ?_; intro gb929 hg w3 hbox hb; have BK929 := Aside0.mk (hbox); have GW929 := gs HB hg; have GE929 := gs HB hg; replace HB := Aside0.mk (below_step (bl HB) hb); clear hb hbox hg))
 go_loopg [5, 6] k (fun kq v5 v6 w' => ∃ (x5_1 : List (S42)) (x6_1 : Int), v6 = .int .i64 x6_1 ∧ Aside0 (selvedgetop_TopNeighbours.l0 kq a1 x5_1 x6_1 a0_0 a0_1 a0_2 = some r) ∧ Aside0 (kq ≤ k) ∧ Aside0 (Kd.S k42 42 w' w.heap.size (fun _ => True) v5 x5_1) ∧ Aside0 (w'.heap[gb929]? = some (.cells #[.int .u8 a0_0, .int .u8 a0_1, .int .u8 a0_2] 65 (0, 0))) ∧ Aside0 (Below w.heap.size w w'))
 case atStart => exact ⟨(([] : List (S42))), (0), (by first | rfl | (simp; done) | (simp [*]; done)), H', ⟨Nat.le_refl _⟩, ⟨by first | exact Kd.S_nil _ _ _ _ _ | exact Kd.N_nil _ _ _ _ _ | exact Kd.V_nil _ _ _ _ _ | exact Kd.Q_nil _ _ _ _ _ | exact Kd.R_nil _ _ _ _ _⟩, ⟨bk BK929⟩, ⟨bs HB (by simp [ag, GE929.out])⟩⟩
 case round =>
  clear H'
  try clear c1
  try clear p2
  obtain ⟨x5_1, x6_1, rfl, HA, HK1, HO_5, BK929, HB⟩ := hrel
  cases gk with
  | zero => exact absurd HA.out (by simp [selvedgetop_TopNeighbours.l0])
  | succ k1 =>
   have H := HA.out
   clear HA
   simp only [selvedgetop_TopNeighbours.l0] at H
   by_cases c4 : x6_1 < 3
   ·rw [if_pos c4] at H
    have c4b0 : decide (x6_1 < 3) = true := decide_eq_true c4
    clear c4
    by_cases c5 : x6_1 = 0
    ·rw [if_pos c5] at H
     have c5b0 : (x6_1 == 0) = true := beq_iff_eq.mpr c5
     have c5b1 : (x6_1 != 0) = false := bne_eq_false_iff_eq.mpr c5
     clear c5
     have z6b0 : x6_1 = 0 := by first | assumption | exact beq_iff_eq.mp (by assumption) | exact of_eq_true (by assumption) | omega
     have z6b1 : (0 ≤ x6_1) = True := eq_true (by omega)
     have z6b2 : (x6_1 < 3) = True := eq_true (by omega)
     have z6b3 : (x6_1).toNat = 0 := by omega
     have z6b4 : wrap64 (x6_1 + 1) = x6_1 + 1 := by unfold wrap64; omega
     clear z6b0
     replace H := Option.bind_eq_some_iff.mp H
     obtain ⟨⟨t930, t931, t932, t933, t934, t935, t938, t941⟩, A70, H⟩ := H
     try dsimp -implicitDefEqProofs -simprocs only at H
     have A7 := Aside0.mk A70
     clear A70
     by_cases c8 : t941 = 0
     ·rw [if_pos c8] at H
      have c8b0 : (t941 == 0) = true := beq_iff_eq.mpr c8
      have c8b1 : (t941 != 0) = false := bne_eq_false_iff_eq.mpr c8
      clear c8
      by_cases c9 : x5_1.length < 1599289640401
      ·rw [if_pos c9] at H
       have LMc9 := Aside0.mk c9
       clear c9
       obtain ⟨y943, hy943⟩ : ∃ y_ : List (S42), y_ = (x5_1 ++ [(⟨t930, t931, t932, t933, t934, t935, t938⟩ : S42)]) := ⟨_, rfl⟩
       replace H : (selvedgetop_TopNeighbours.l0 k1 a1 y943 (wrap64 (x6_1 + 1)) a0_0 a0_1 a0_2) = some r := by first | (rw [hy943]; with_reducible exact H) | (have H2_ := (Option.bind_some _ _).symm.trans H; rw [hy943]; with_reducible exact H2_) | (have H2_ := (Option.bind_some _ _).symm.trans H; with_reducible exact H2_) | with_reducible exact H | (rw [hy943]; exact H) | exact H
       have Ny943 := Aside0.mk hy943
       clear hy943
       have H' := Aside0.mk H
       clear H
       obtain ⟨hcz10_0, hcz10_1, hcz10_2, hfz10_0, hfz10_1, hfz10_2⟩ := cf3 BK929
       go_wp2_with (first | ((with_reducible refine gate_callee (f := 36) rfl ?_); refine goesL_ (some 31) rfl rfl Try.func36 (by kernel_rfl) rfl #[.int .i64 x6_1, .int .i64 (wrap64 ((Int.tmod (wrap64 (a0_0)) 30) + 1))] rfl (by simp only [List.map_toArray, List.map_cons, List.map_nil]; first | done | rfl) ?_; (with_reducible refine (cyl_New.calls k1 x6_1 (wrap64 ((Int.tmod (wrap64 (a0_0)) 30) + 1)) t930 t931 t932 t933 t934 t935 t938 t941 _ A7.out).mono ?_); rintro e w11 ⟨v936, v939, rfl, ho0, ho1, hb⟩; refine ⟨_, rfl, ?_⟩; have hone_v936 := Kd.R_one ho0; have hone_v939 := Kd.R_one ho1; replace HO_5 := Aside0.mk (Kd.S_mono (Kd.S_told (Kd.S_told (Kd.S_old (sk HO_5) hb) (Kd.R_base ho0)) (Kd.R_base ho1)) (fun _ h_ => h_.1)); have HO937 := Aside0.mk (Kd.R_lower ho0 (below_size (bs HB (by simp [ag, GE929.out])))); have HO940 := Aside0.mk (Kd.R_lower ho1 (below_size (bs HB (by simp [ag, GE929.out])))); replace BK929 := Aside0.mk (bb BK929 hb); replace HB := Aside0.mk (below_step (bs HB (by simp [ag, GE929.out])) hb); clear ho0 hb; (try clear ho1)) | ((with_reducible refine gate_dst (N := 7) rfl ?_); refine box_event rfl (N := 7) rfl (cs := #[.int .i64 0, .int .i64 0, .int .i64 0, .int .i64 0, .int .i64 0, .slice none 0 0, .slice none 0 0]) (t := 42) (by first | (go_simp; done) | (go_simp; rfl)) ?_; intro gb942 hg w12 hbox hb; replace HO_5 := Aside0.mk (Kd.S_below (Kd.S_elderB (sk HO_5) gb942 (Nat.le_of_eq hg.symm)) hb); replace HO937 := Aside0.mk (Kd.R_below (rk HO937) hb); replace HO940 := Aside0.mk (Kd.R_below (rk HO940) hb); have BK942 := Aside0.mk (hbox); have GW942 := gl HB hg (by simp [ag, GE929.out]); have GE942 := gl HB hg (by simp [ag, GE929.out]); replace HB := Aside0.mk (below_step (bs HB (by simp [ag, GE929.out])) hb); have NB929_942 := nl BK929 hg; have NB942_929 := nt BK929 hg; replace BK929 := Aside0.mk (bb BK929 hb); clear hb hbox hg; have hnb13 := NB942_929.out; have hnc13 := NB929_942.out; obtain ⟨hcz14_0, hcz14_1, hcz14_2, hcz14_3, hcz14_4, hcz14_5, hcz14_6, hfz14_0, hfz14_1, hfz14_2, hfz14_3, hfz14_4, hfz14_5, hfz14_6⟩ := cf7 BK942; obtain ⟨Ao15, co15, eo15⟩ := Kd.R_slice HO937.out; subst eo15; obtain ⟨Ao16, co16, eo16⟩ := Kd.R_slice HO940.out; subst eo16) | ((with_reducible refine gate_store (t := 42) (p := 7) rfl ?_); refine store_event (t := 42) (p := 7) (v := ?vo_w17) (w1 := (((((((w12.setCell ⟨gb942, 0, none⟩ (.int .i64 t930)).setCell ⟨gb942, 1, none⟩ (.int .i64 t931)).setCell ⟨gb942, 2, none⟩ (.int .i64 t932)).setCell ⟨gb942, 3, none⟩ (.int .i64 t933)).setCell ⟨gb942, 4, none⟩ (.int .i64 t934)).setCell ⟨gb942, 5, none⟩ (.slice Ao15 t935.length co15)).setCell ⟨gb942, 6, none⟩ (.slice Ao16 t938.length co16))) ?hg ?ho ?hn ?hr ?_; (case ho => rfl); (case hg => rfl); (case hn => rfl); (case hr => first | (go_simp; done) | (go_simp; rfl)); intro w17 hw; have n0_ : Aside0 (Kd.S k42 42 w17 w.heap.size (fun k_ => some k_ ≠ (.slice Ao15 t935.length co15 : Value).ownBlock ∧ some k_ ≠ (.slice Ao16 t938.length co16 : Value).ownBlock ∧ k_ ≠ gb942) u5 x5_1) := ⟨(by rw [hw]; exact (by (with_reducible repeat (first | apply Kd.S_alloc | apply Kd.S_drewN | apply Kd.S_drew)); exact Kd.S_mono (Kd.S_far (p := ⟨gb942, 6, none⟩) (Kd.S_far (p := ⟨gb942, 5, none⟩) (Kd.S_far (p := ⟨gb942, 4, none⟩) (Kd.S_far (p := ⟨gb942, 3, none⟩) (Kd.S_far (p := ⟨gb942, 2, none⟩) (Kd.S_far (p := ⟨gb942, 1, none⟩) (Kd.S_far (p := ⟨gb942, 0, none⟩) (Kd.S_mono HO_5.out (fun k_ hk => (⟨hk, hk.2⟩ : _ ∧ k_ ≠ gb942))) (fun _ hk => hk.2) (.int .i64 t930)) (fun _ hk => hk.2) (.int .i64 t931)) (fun _ hk => hk.2) (.int .i64 t932)) (fun _ hk => hk.2) (.int .i64 t933)) (fun _ hk => hk.2) (.int .i64 t934)) (fun _ hk => hk.2) (.slice Ao15 t935.length co15)) (fun _ hk => hk.2) (.slice Ao16 t938.length co16)) (fun _ hk => ⟨hk.1.1.1.2, ⟨hk.1.1.2, hk.1.2⟩⟩)))⟩; have n1_ : Aside0 (Kd.R (Kd.int .i64) 3 w17 w.heap.size (fun k_ => some k_ ≠ (.slice Ao16 t938.length co16 : Value).ownBlock) (.slice Ao15 t935.length co15) t935) := ⟨(by rw [hw]; exact (by (with_reducible repeat (first | apply Kd.R_alloc | apply Kd.R_drewN | apply Kd.R_drew)); exact Kd.R_mono (Kd.R_far (p := ⟨gb942, 6, none⟩) (Kd.R_far (p := ⟨gb942, 5, none⟩) (Kd.R_far (p := ⟨gb942, 4, none⟩) (Kd.R_far (p := ⟨gb942, 3, none⟩) (Kd.R_far (p := ⟨gb942, 2, none⟩) (Kd.R_far (p := ⟨gb942, 1, none⟩) (Kd.R_far (p := ⟨gb942, 0, none⟩) (Kd.R_types HO937.out BK942.out (by decide)) (fun _ hk => hk.2) (.int .i64 t930)) (fun _ hk => hk.2) (.int .i64 t931)) (fun _ hk => hk.2) (.int .i64 t932)) (fun _ hk => hk.2) (.int .i64 t933)) (fun _ hk => hk.2) (.int .i64 t934)) (fun _ hk => hk.2) (.slice Ao15 t935.length co15)) (fun _ hk => hk.2) (.slice Ao16 t938.length co16)) (fun _ hk => hk.1)))⟩; have n2_ : Aside0 (Kd.R (Kd.int .i64) 3 w17 w.heap.size (fun k_ => some k_ ≠ (.slice Ao15 t935.length co15 : Value).ownBlock) (.slice Ao16 t938.length co16) t938) := ⟨(by rw [hw]; exact (by (with_reducible repeat (first | apply Kd.R_alloc | apply Kd.R_drewN | apply Kd.R_drew)); exact Kd.R_mono (Kd.R_far (p := ⟨gb942, 6, none⟩) (Kd.R_far (p := ⟨gb942, 5, none⟩) (Kd.R_far (p := ⟨gb942, 4, none⟩) (Kd.R_far (p := ⟨gb942, 3, none⟩) (Kd.R_far (p := ⟨gb942, 2, none⟩) (Kd.R_far (p := ⟨gb942, 1, none⟩) (Kd.R_far (p := ⟨gb942, 0, none⟩) (Kd.R_types HO940.out BK942.out (by decide)) (fun _ hk => hk.2) (.int .i64 t930)) (fun _ hk => hk.2) (.int .i64 t931)) (fun _ hk => hk.2) (.int .i64 t932)) (fun _ hk => hk.2) (.int .i64 t933)) (fun _ hk => hk.2) (.int .i64 t934)) (fun _ hk => hk.2) (.slice Ao15 t935.length co15)) (fun _ hk => hk.2) (.slice Ao16 t938.length co16)) (fun _ hk => hk.1)))⟩; have n3_ : Aside0 (w17.heap[gb929]? = some (.cells #[.int .u8 a0_0, .int .u8 a0_1, .int .u8 a0_2] 65 (0, 0))) := ⟨(by rw [hw]; exact (by (with_reducible repeat (first | refine blk_drewN ?_ _ | refine blk_drew ?_ | refine blk_alloc ?_ _)); refine blk_far ?_ NB929_942.out _; (with_reducible repeat (first | refine blk_drewN ?_ _ | refine blk_drew ?_ | refine blk_alloc ?_ _)); refine blk_far ?_ NB929_942.out _; (with_reducible repeat (first | refine blk_drewN ?_ _ | refine blk_drew ?_ | refine blk_alloc ?_ _)); refine blk_far ?_ NB929_942.out _; (with_reducible repeat (first | refine blk_drewN ?_ _ | refine blk_drew ?_ | refine blk_alloc ?_ _)); refine blk_far ?_ NB929_942.out _; (with_reducible repeat (first | refine blk_drewN ?_ _ | refine blk_drew ?_ | refine blk_alloc ?_ _)); refine blk_far ?_ NB929_942.out _; (with_reducible repeat (first | refine blk_drewN ?_ _ | refine blk_drew ?_ | refine blk_alloc ?_ _)); refine blk_far ?_ NB929_942.out _; (with_reducible repeat (first | refine blk_drewN ?_ _ | refine blk_drew ?_ | refine blk_alloc ?_ _)); refine blk_far ?_ NB929_942.out _; (with_reducible repeat (first | refine blk_drewN ?_ _ | refine blk_drew ?_ | refine blk_alloc ?_ _)); exact BK929.out))⟩; have n4_ : Aside0 (w17.heap[gb942]? = some (.cells #[.int .i64 t930, .int .i64 t931, .int .i64 t932, .int .i64 t933, .int .i64 t934, .slice Ao15 t935.length co15, .slice Ao16 t938.length co16] 42 (0, 0))) := ⟨(by rw [hw]; exact (by (with_reducible repeat (first | refine blk_drewN ?_ _ | refine blk_drew ?_ | refine blk_alloc ?_ _)); refine blk_put (cs := #[.int .i64 t930, .int .i64 t931, .int .i64 t932, .int .i64 t933, .int .i64 t934, .slice Ao15 t935.length co15, .slice none 0 0]) ?_ 6 _ rfl; (with_reducible repeat (first | refine blk_drewN ?_ _ | refine blk_drew ?_ | refine blk_alloc ?_ _)); refine blk_put (cs := #[.int .i64 t930, .int .i64 t931, .int .i64 t932, .int .i64 t933, .int .i64 t934, .slice none 0 0, .slice none 0 0]) ?_ 5 _ rfl; (with_reducible repeat (first | refine blk_drewN ?_ _ | refine blk_drew ?_ | refine blk_alloc ?_ _)); refine blk_put (cs := #[.int .i64 t930, .int .i64 t931, .int .i64 t932, .int .i64 t933, .int .i64 0, .slice none 0 0, .slice none 0 0]) ?_ 4 _ rfl; (with_reducible repeat (first | refine blk_drewN ?_ _ | refine blk_drew ?_ | refine blk_alloc ?_ _)); refine blk_put (cs := #[.int .i64 t930, .int .i64 t931, .int .i64 t932, .int .i64 0, .int .i64 0, .slice none 0 0, .slice none 0 0]) ?_ 3 _ rfl; (with_reducible repeat (first | refine blk_drewN ?_ _ | refine blk_drew ?_ | refine blk_alloc ?_ _)); refine blk_put (cs := #[.int .i64 t930, .int .i64 t931, .int .i64 0, .int .i64 0, .int .i64 0, .slice none 0 0, .slice none 0 0]) ?_ 2 _ rfl; (with_reducible repeat (first | refine blk_drewN ?_ _ | refine blk_drew ?_ | refine blk_alloc ?_ _)); refine blk_put (cs := #[.int .i64 t930, .int .i64 0, .int .i64 0, .int .i64 0, .int .i64 0, .slice none 0 0, .slice none 0 0]) ?_ 1 _ rfl; (with_reducible repeat (first | refine blk_drewN ?_ _ | refine blk_drew ?_ | refine blk_alloc ?_ _)); refine blk_put (cs := #[.int .i64 0, .int .i64 0, .int .i64 0, .int .i64 0, .int .i64 0, .slice none 0 0, .slice none 0 0]) ?_ 0 _ rfl; (with_reducible repeat (first | refine blk_drewN ?_ _ | refine blk_drew ?_ | refine blk_alloc ?_ _)); exact BK942.out))⟩; have n5_ : Aside0 (Below w.heap.size w w17) := ⟨(by rw [hw]; exact (bs HB (by simp [ag, GE929.out, GE942.out])))⟩; clear hw; clear HO_5; clear HO937; clear HO940; clear BK929; clear BK942; clear HB; have HO_5 := n0_; have HO937 := n1_; have HO940 := n2_; have BK929 := n3_; have BK942 := n4_; have HB := n5_; clear n0_ n1_ n2_ n3_ n4_ n5_; obtain ⟨hcz18_0, hcz18_1, hcz18_2, hcz18_3, hcz18_4, hcz18_5, hcz18_6, hfz18_0, hfz18_1, hfz18_2, hfz18_3, hfz18_4, hfz18_5, hfz18_6⟩ := cf7 BK942) | ((with_reducible refine gate_builtin (b := .append) (xs := #[.tmp 36, .tmp 38]) rfl ?_); at_builtin; refine Kd.S_append k42 (w0 := w) w.heap.size rfl (.tmp 36) (.tmp 38) 22 42 (.agg #[(.int .i64 0), (.int .i64 0), (.int .i64 0), (.int .i64 0), (.int .i64 0), (.slice none 0 0), (.slice none 0 0)]) 88 rfl Try.underlying22 info42 rfl (by decide) (by omega) u5 x5_1 (⟨t930, t931, t932, t933, t934, t935, t938⟩ : S42) [.int .i64 t930, .int .i64 t931, .int .i64 t932, .int .i64 t933, .int .i64 t934, .slice Ao15 t935.length co15, .slice Ao16 t938.length co16] (fun k_ => k_ ≠ gb942) (fun k_ => some k_ = (.slice Ao15 t935.length co15 : Value).ownBlock ∨ some k_ = (.slice Ao16 t938.length co16 : Value).ownBlock) rfl rfl ?aP (fun k_ hk_ => hk_.elim (fun h_ => ((Kd.R_mono (ok' := fun k_ => ((fun k_ => k_ ≠ gb942)) k_ ∧ some k_ ≠ (u5 : Value).ownBlock) (Kd.R_types (Kd.R_apart' (HO937.out) (Kd.S_typed HO_5.out) (by decide)) BK942.out (by decide)) (fun k_ hk => ⟨hk.2, hk.1.2⟩))).1 k_ h_.symm) (fun h_ => ((Kd.R_mono (ok' := fun k_ => ((fun k_ => k_ ≠ gb942)) k_ ∧ some k_ ≠ (u5 : Value).ownBlock) (Kd.R_types (Kd.R_apart' (HO940.out) (Kd.S_typed HO_5.out) (by decide)) BK942.out (by decide)) (fun k_ hk => ⟨hk.2, hk.1.2⟩))).1 k_ h_.symm)) ?aF ?aO ?aB ?aS ?aL ?_; (case aP => exact k42_mkM _ _ _ (⟨t930, t931, t932, t933, t934, t935, t938⟩ : S42) (Kd.R_mono (Kd.R_tight rfl (Kd.R_mono (ok' := fun k_ => ((fun k_ => k_ ≠ gb942)) k_ ∧ some k_ ≠ (u5 : Value).ownBlock) (Kd.R_types (Kd.R_apart' (HO937.out) (Kd.S_typed HO_5.out) (by decide)) BK942.out (by decide)) (fun k_ hk => ⟨hk.2, hk.1.2⟩))) (fun _ h_ => Or.inl h_)) (Kd.R_mono (Kd.R_tight rfl (Kd.R_mono (ok' := fun k_ => ((fun k_ => k_ ≠ gb942)) k_ ∧ some k_ ≠ (u5 : Value).ownBlock) (Kd.R_types (Kd.R_apart' (HO940.out) (Kd.S_typed HO_5.out) (by decide)) BK942.out (by decide)) (fun k_ hk => ⟨hk.2, hk.1.2⟩))) (fun _ h_ => Or.inr (h_)))); (case aB => exact (bs HB (by simp [ag, GE929.out, GE942.out]))); (case aF => exact (fun k_ hk => Kd.freshB (g := gb942) (o := .cells #[.int .i64 t930, .int .i64 t931, .int .i64 t932, .int .i64 t933, .int .i64 t934, .slice Ao15 t935.length co15, .slice Ao16 t938.length co16] 42 (0, 0)) (bk BK942) k_ hk)); (case aO => exact (Kd.S_mono (sk HO_5) (fun k_ hk => ⟨hk.2.2, fun e_ => e_.elim (fun h_ => hk.1 h_) (fun h_ => hk.2.1 h_)⟩))); (case aS => exact (below_size (bs HB (by simp [ag, GE929.out, GE942.out])))); (case aL => have := LMc9.out; omega); intro v944 w19 ho hb hg hat; rw [← Ny943.out] at ho; replace BK929 := Aside0.mk (blk_grown (g := gb929) (o := .cells #[.int .u8 a0_0, .int .u8 a0_1, .int .u8 a0_2] 65 (0, 0)) (bk BK929) hg (Kd.S_ne HO_5.out BK929.out (by decide))); replace BK942 := Aside0.mk (blk_grown (g := gb942) (o := .cells #[.int .i64 t930, .int .i64 t931, .int .i64 t932, .int .i64 t933, .int .i64 t934, .slice Ao15 t935.length co15, .slice Ao16 t938.length co16] 42 (0, 0)) (bk BK942) hg (Kd.S_away HO_5.out (fun _ hk => hk.2.2))); replace HB := Aside0.mk (hb); have HO945 := Aside0.mk (ho); clear HO_5 HO937 HO940; clear ho hb hg hat))
       go_roundg k1
       case measure => have := HK1.out; omega
       case rel => exact ⟨(y943), (wrap64 (x6_1 + 1)), (by first | rfl | (simp; done) | (simp [*]; done)), H', ⟨by have := HK1.out; omega⟩, ⟨Kd.S_mono (sk HO945) (fun _ hk => trivial)⟩, ⟨bk BK929⟩, ⟨bs HB (by simp [ag, GE929.out, GE942.out])⟩⟩
      ·rw [if_neg c9] at H
       exact absurd H (by simp)
     ·rw [if_neg c8] at H
      exact absurd H (by simp)
    ·rw [if_neg c5] at H
     have c5b0 : (x6_1 == 0) = false := beq_eq_false_iff_ne.mpr c5
     have c5b1 : (x6_1 != 0) = true := bne_iff_ne.mpr c5
     by_cases c20 : x6_1 = 1
     ·rw [if_pos c20] at H
      have c20b0 : (x6_1 == 1) = true := beq_iff_eq.mpr c20
      have c20b1 : (x6_1 != 1) = false := bne_eq_false_iff_eq.mpr c20
      clear c20
      have z21b0 : x6_1 = 1 := by first | assumption | exact beq_iff_eq.mp (by assumption) | exact of_eq_true (by assumption) | omega
      have z21b1 : (0 ≤ x6_1) = True := eq_true (by omega)
      have z21b2 : (x6_1 < 3) = True := eq_true (by omega)
      have z21b3 : (x6_1).toNat = 1 := by omega
      have z21b4 : wrap64 (x6_1 + 1) = x6_1 + 1 := by unfold wrap64; omega
      clear z21b0
      replace H := Option.bind_eq_some_iff.mp H
      obtain ⟨⟨t946, t947, t948, t949, t950, t951, t954, t957⟩, A220, H⟩ := H
      try dsimp -implicitDefEqProofs -simprocs only at H
      have A22 := Aside0.mk A220
      clear A220
      by_cases c23 : t957 = 0
      ·rw [if_pos c23] at H
       have c23b0 : (t957 == 0) = true := beq_iff_eq.mpr c23
       have c23b1 : (t957 != 0) = false := bne_eq_false_iff_eq.mpr c23
       clear c23
       by_cases c24 : x5_1.length < 1599289640401
       ·rw [if_pos c24] at H
        have LMc24 := Aside0.mk c24
        clear c24
        obtain ⟨y959, hy959⟩ : ∃ y_ : List (S42), y_ = (x5_1 ++ [(⟨t946, t947, t948, t949, t950, t951, t954⟩ : S42)]) := ⟨_, rfl⟩
        replace H : (selvedgetop_TopNeighbours.l0 k1 a1 y959 (wrap64 (x6_1 + 1)) a0_0 a0_1 a0_2) = some r := by first | (rw [hy959]; with_reducible exact H) | (have H2_ := (Option.bind_some _ _).symm.trans H; rw [hy959]; with_reducible exact H2_) | (have H2_ := (Option.bind_some _ _).symm.trans H; with_reducible exact H2_) | with_reducible exact H | (rw [hy959]; exact H) | exact H
        have Ny959 := Aside0.mk hy959
        clear hy959
        have H' := Aside0.mk H
        clear H
        obtain ⟨hcz25_0, hcz25_1, hcz25_2, hfz25_0, hfz25_1, hfz25_2⟩ := cf3 BK929
        go_wp2_with (first | ((with_reducible refine gate_callee (f := 36) rfl ?_); refine goesL_ (some 31) rfl rfl Try.func36 (by kernel_rfl) rfl #[.int .i64 x6_1, .int .i64 (wrap64 ((Int.tmod (wrap64 (a0_1)) 30) + 1))] rfl (by simp only [List.map_toArray, List.map_cons, List.map_nil]; first | done | rfl) ?_; (with_reducible refine (cyl_New.calls k1 x6_1 (wrap64 ((Int.tmod (wrap64 (a0_1)) 30) + 1)) t946 t947 t948 t949 t950 t951 t954 t957 _ A22.out).mono ?_); rintro e w26 ⟨v952, v955, rfl, ho0, ho1, hb⟩; refine ⟨_, rfl, ?_⟩; have hone_v952 := Kd.R_one ho0; have hone_v955 := Kd.R_one ho1; replace HO_5 := Aside0.mk (Kd.S_mono (Kd.S_told (Kd.S_told (Kd.S_old (sk HO_5) hb) (Kd.R_base ho0)) (Kd.R_base ho1)) (fun _ h_ => h_.1)); have HO953 := Aside0.mk (Kd.R_lower ho0 (below_size (bs HB (by simp [ag, GE929.out])))); have HO956 := Aside0.mk (Kd.R_lower ho1 (below_size (bs HB (by simp [ag, GE929.out])))); replace BK929 := Aside0.mk (bb BK929 hb); replace HB := Aside0.mk (below_step (bs HB (by simp [ag, GE929.out])) hb); clear ho0 hb; (try clear ho1)) | ((with_reducible refine gate_dst (N := 7) rfl ?_); refine box_event rfl (N := 7) rfl (cs := #[.int .i64 0, .int .i64 0, .int .i64 0, .int .i64 0, .int .i64 0, .slice none 0 0, .slice none 0 0]) (t := 42) (by first | (go_simp; done) | (go_simp; rfl)) ?_; intro gb958 hg w27 hbox hb; replace HO_5 := Aside0.mk (Kd.S_below (Kd.S_elderB (sk HO_5) gb958 (Nat.le_of_eq hg.symm)) hb); replace HO953 := Aside0.mk (Kd.R_below (rk HO953) hb); replace HO956 := Aside0.mk (Kd.R_below (rk HO956) hb); have BK958 := Aside0.mk (hbox); have GW958 := gl HB hg (by simp [ag, GE929.out]); have GE958 := gl HB hg (by simp [ag, GE929.out]); replace HB := Aside0.mk (below_step (bs HB (by simp [ag, GE929.out])) hb); have NB929_958 := nl BK929 hg; have NB958_929 := nt BK929 hg; replace BK929 := Aside0.mk (bb BK929 hb); clear hb hbox hg; have hnb28 := NB958_929.out; have hnc28 := NB929_958.out; obtain ⟨hcz29_0, hcz29_1, hcz29_2, hcz29_3, hcz29_4, hcz29_5, hcz29_6, hfz29_0, hfz29_1, hfz29_2, hfz29_3, hfz29_4, hfz29_5, hfz29_6⟩ := cf7 BK958; obtain ⟨Ao30, co30, eo30⟩ := Kd.R_slice HO953.out; subst eo30; obtain ⟨Ao31, co31, eo31⟩ := Kd.R_slice HO956.out; subst eo31) | ((with_reducible refine gate_store (t := 42) (p := 7) rfl ?_); refine store_event (t := 42) (p := 7) (v := ?vo_w32) (w1 := (((((((w27.setCell ⟨gb958, 0, none⟩ (.int .i64 t946)).setCell ⟨gb958, 1, none⟩ (.int .i64 t947)).setCell ⟨gb958, 2, none⟩ (.int .i64 t948)).setCell ⟨gb958, 3, none⟩ (.int .i64 t949)).setCell ⟨gb958, 4, none⟩ (.int .i64 t950)).setCell ⟨gb958, 5, none⟩ (.slice Ao30 t951.length co30)).setCell ⟨gb958, 6, none⟩ (.slice Ao31 t954.length co31))) ?hg ?ho ?hn ?hr ?_; (case ho => rfl); (case hg => rfl); (case hn => rfl); (case hr => first | (go_simp; done) | (go_simp; rfl)); intro w32 hw; have n0_ : Aside0 (Kd.S k42 42 w32 w.heap.size (fun k_ => some k_ ≠ (.slice Ao30 t951.length co30 : Value).ownBlock ∧ some k_ ≠ (.slice Ao31 t954.length co31 : Value).ownBlock ∧ k_ ≠ gb958) u5 x5_1) := ⟨(by rw [hw]; exact (by (with_reducible repeat (first | apply Kd.S_alloc | apply Kd.S_drewN | apply Kd.S_drew)); exact Kd.S_mono (Kd.S_far (p := ⟨gb958, 6, none⟩) (Kd.S_far (p := ⟨gb958, 5, none⟩) (Kd.S_far (p := ⟨gb958, 4, none⟩) (Kd.S_far (p := ⟨gb958, 3, none⟩) (Kd.S_far (p := ⟨gb958, 2, none⟩) (Kd.S_far (p := ⟨gb958, 1, none⟩) (Kd.S_far (p := ⟨gb958, 0, none⟩) (Kd.S_mono HO_5.out (fun k_ hk => (⟨hk, hk.2⟩ : _ ∧ k_ ≠ gb958))) (fun _ hk => hk.2) (.int .i64 t946)) (fun _ hk => hk.2) (.int .i64 t947)) (fun _ hk => hk.2) (.int .i64 t948)) (fun _ hk => hk.2) (.int .i64 t949)) (fun _ hk => hk.2) (.int .i64 t950)) (fun _ hk => hk.2) (.slice Ao30 t951.length co30)) (fun _ hk => hk.2) (.slice Ao31 t954.length co31)) (fun _ hk => ⟨hk.1.1.1.2, ⟨hk.1.1.2, hk.1.2⟩⟩)))⟩; have n1_ : Aside0 (Kd.R (Kd.int .i64) 3 w32 w.heap.size (fun k_ => some k_ ≠ (.slice Ao31 t954.length co31 : Value).ownBlock) (.slice Ao30 t951.length co30) t951) := ⟨(by rw [hw]; exact (by (with_reducible repeat (first | apply Kd.R_alloc | apply Kd.R_drewN | apply Kd.R_drew)); exact Kd.R_mono (Kd.R_far (p := ⟨gb958, 6, none⟩) (Kd.R_far (p := ⟨gb958, 5, none⟩) (Kd.R_far (p := ⟨gb958, 4, none⟩) (Kd.R_far (p := ⟨gb958, 3, none⟩) (Kd.R_far (p := ⟨gb958, 2, none⟩) (Kd.R_far (p := ⟨gb958, 1, none⟩) (Kd.R_far (p := ⟨gb958, 0, none⟩) (Kd.R_types HO953.out BK958.out (by decide)) (fun _ hk => hk.2) (.int .i64 t946)) (fun _ hk => hk.2) (.int .i64 t947)) (fun _ hk => hk.2) (.int .i64 t948)) (fun _ hk => hk.2) (.int .i64 t949)) (fun _ hk => hk.2) (.int .i64 t950)) (fun _ hk => hk.2) (.slice Ao30 t951.length co30)) (fun _ hk => hk.2) (.slice Ao31 t954.length co31)) (fun _ hk => hk.1)))⟩; have n2_ : Aside0 (Kd.R (Kd.int .i64) 3 w32 w.heap.size (fun k_ => some k_ ≠ (.slice Ao30 t951.length co30 : Value).ownBlock) (.slice Ao31 t954.length co31) t954) := ⟨(by rw [hw]; exact (by (with_reducible repeat (first | apply Kd.R_alloc | apply Kd.R_drewN | apply Kd.R_drew)); exact Kd.R_mono (Kd.R_far (p := ⟨gb958, 6, none⟩) (Kd.R_far (p := ⟨gb958, 5, none⟩) (Kd.R_far (p := ⟨gb958, 4, none⟩) (Kd.R_far (p := ⟨gb958, 3, none⟩) (Kd.R_far (p := ⟨gb958, 2, none⟩) (Kd.R_far (p := ⟨gb958, 1, none⟩) (Kd.R_far (p := ⟨gb958, 0, none⟩) (Kd.R_types HO956.out BK958.out (by decide)) (fun _ hk => hk.2) (.int .i64 t946)) (fun _ hk => hk.2) (.int .i64 t947)) (fun _ hk => hk.2) (.int .i64 t948)) (fun _ hk => hk.2) (.int .i64 t949)) (fun _ hk => hk.2) (.int .i64 t950)) (fun _ hk => hk.2) (.slice Ao30 t951.length co30)) (fun _ hk => hk.2) (.slice Ao31 t954.length co31)) (fun _ hk => hk.1)))⟩; have n3_ : Aside0 (w32.heap[gb929]? = some (.cells #[.int .u8 a0_0, .int .u8 a0_1, .int .u8 a0_2] 65 (0, 0))) := ⟨(by rw [hw]; exact (by (with_reducible repeat (first | refine blk_drewN ?_ _ | refine blk_drew ?_ | refine blk_alloc ?_ _)); refine blk_far ?_ NB929_958.out _; (with_reducible repeat (first | refine blk_drewN ?_ _ | refine blk_drew ?_ | refine blk_alloc ?_ _)); refine blk_far ?_ NB929_958.out _; (with_reducible repeat (first | refine blk_drewN ?_ _ | refine blk_drew ?_ | refine blk_alloc ?_ _)); refine blk_far ?_ NB929_958.out _; (with_reducible repeat (first | refine blk_drewN ?_ _ | refine blk_drew ?_ | refine blk_alloc ?_ _)); refine blk_far ?_ NB929_958.out _; (with_reducible repeat (first | refine blk_drewN ?_ _ | refine blk_drew ?_ | refine blk_alloc ?_ _)); refine blk_far ?_ NB929_958.out _; (with_reducible repeat (first | refine blk_drewN ?_ _ | refine blk_drew ?_ | refine blk_alloc ?_ _)); refine blk_far ?_ NB929_958.out _; (with_reducible repeat (first | refine blk_drewN ?_ _ | refine blk_drew ?_ | refine blk_alloc ?_ _)); refine blk_far ?_ NB929_958.out _; (with_reducible repeat (first | refine blk_drewN ?_ _ | refine blk_drew ?_ | refine blk_alloc ?_ _)); exact BK929.out))⟩; have n4_ : Aside0 (w32.heap[gb958]? = some (.cells #[.int .i64 t946, .int .i64 t947, .int .i64 t948, .int .i64 t949, .int .i64 t950, .slice Ao30 t951.length co30, .slice Ao31 t954.length co31] 42 (0, 0))) := ⟨(by rw [hw]; exact (by (with_reducible repeat (first | refine blk_drewN ?_ _ | refine blk_drew ?_ | refine blk_alloc ?_ _)); refine blk_put (cs := #[.int .i64 t946, .int .i64 t947, .int .i64 t948, .int .i64 t949, .int .i64 t950, .slice Ao30 t951.length co30, .slice none 0 0]) ?_ 6 _ rfl; (with_reducible repeat (first | refine blk_drewN ?_ _ | refine blk_drew ?_ | refine blk_alloc ?_ _)); refine blk_put (cs := #[.int .i64 t946, .int .i64 t947, .int .i64 t948, .int .i64 t949, .int .i64 t950, .slice none 0 0, .slice none 0 0]) ?_ 5 _ rfl; (with_reducible repeat (first | refine blk_drewN ?_ _ | refine blk_drew ?_ | refine blk_alloc ?_ _)); refine blk_put (cs := #[.int .i64 t946, .int .i64 t947, .int .i64 t948, .int .i64 t949, .int .i64 0, .slice none 0 0, .slice none 0 0]) ?_ 4 _ rfl; (with_reducible repeat (first | refine blk_drewN ?_ _ | refine blk_drew ?_ | refine blk_alloc ?_ _)); refine blk_put (cs := #[.int .i64 t946, .int .i64 t947, .int .i64 t948, .int .i64 0, .int .i64 0, .slice none 0 0, .slice none 0 0]) ?_ 3 _ rfl; (with_reducible repeat (first | refine blk_drewN ?_ _ | refine blk_drew ?_ | refine blk_alloc ?_ _)); refine blk_put (cs := #[.int .i64 t946, .int .i64 t947, .int .i64 0, .int .i64 0, .int .i64 0, .slice none 0 0, .slice none 0 0]) ?_ 2 _ rfl; (with_reducible repeat (first | refine blk_drewN ?_ _ | refine blk_drew ?_ | refine blk_alloc ?_ _)); refine blk_put (cs := #[.int .i64 t946, .int .i64 0, .int .i64 0, .int .i64 0, .int .i64 0, .slice none 0 0, .slice none 0 0]) ?_ 1 _ rfl; (with_reducible repeat (first | refine blk_drewN ?_ _ | refine blk_drew ?_ | refine blk_alloc ?_ _)); refine blk_put (cs := #[.int .i64 0, .int .i64 0, .int .i64 0, .int .i64 0, .int .i64 0, .slice none 0 0, .slice none 0 0]) ?_ 0 _ rfl; (with_reducible repeat (first | refine blk_drewN ?_ _ | refine blk_drew ?_ | refine blk_alloc ?_ _)); exact BK958.out))⟩; have n5_ : Aside0 (Below w.heap.size w w32) := ⟨(by rw [hw]; exact (bs HB (by simp [ag, GE929.out, GE958.out])))⟩; clear hw; clear HO_5; clear HO953; clear HO956; clear BK929; clear BK958; clear HB; have HO_5 := n0_; have HO953 := n1_; have HO956 := n2_; have BK929 := n3_; have BK958 := n4_; have HB := n5_; clear n0_ n1_ n2_ n3_ n4_ n5_; obtain ⟨hcz33_0, hcz33_1, hcz33_2, hcz33_3, hcz33_4, hcz33_5, hcz33_6, hfz33_0, hfz33_1, hfz33_2, hfz33_3, hfz33_4, hfz33_5, hfz33_6⟩ := cf7 BK958) | ((with_reducible refine gate_builtin (b := .append) (xs := #[.tmp 36, .tmp 38]) rfl ?_); at_builtin; refine Kd.S_append k42 (w0 := w) w.heap.size rfl (.tmp 36) (.tmp 38) 22 42 (.agg #[(.int .i64 0), (.int .i64 0), (.int .i64 0), (.int .i64 0), (.int .i64 0), (.slice none 0 0), (.slice none 0 0)]) 88 rfl Try.underlying22 info42 rfl (by decide) (by omega) u5 x5_1 (⟨t946, t947, t948, t949, t950, t951, t954⟩ : S42) [.int .i64 t946, .int .i64 t947, .int .i64 t948, .int .i64 t949, .int .i64 t950, .slice Ao30 t951.length co30, .slice Ao31 t954.length co31] (fun k_ => k_ ≠ gb958) (fun k_ => some k_ = (.slice Ao30 t951.length co30 : Value).ownBlock ∨ some k_ = (.slice Ao31 t954.length co31 : Value).ownBlock) rfl rfl ?aP (fun k_ hk_ => hk_.elim (fun h_ => ((Kd.R_mono (ok' := fun k_ => ((fun k_ => k_ ≠ gb958)) k_ ∧ some k_ ≠ (u5 : Value).ownBlock) (Kd.R_types (Kd.R_apart' (HO953.out) (Kd.S_typed HO_5.out) (by decide)) BK958.out (by decide)) (fun k_ hk => ⟨hk.2, hk.1.2⟩))).1 k_ h_.symm) (fun h_ => ((Kd.R_mono (ok' := fun k_ => ((fun k_ => k_ ≠ gb958)) k_ ∧ some k_ ≠ (u5 : Value).ownBlock) (Kd.R_types (Kd.R_apart' (HO956.out) (Kd.S_typed HO_5.out) (by decide)) BK958.out (by decide)) (fun k_ hk => ⟨hk.2, hk.1.2⟩))).1 k_ h_.symm)) ?aF ?aO ?aB ?aS ?aL ?_; (case aP => exact k42_mkM _ _ _ (⟨t946, t947, t948, t949, t950, t951, t954⟩ : S42) (Kd.R_mono (Kd.R_tight rfl (Kd.R_mono (ok' := fun k_ => ((fun k_ => k_ ≠ gb958)) k_ ∧ some k_ ≠ (u5 : Value).ownBlock) (Kd.R_types (Kd.R_apart' (HO953.out) (Kd.S_typed HO_5.out) (by decide)) BK958.out (by decide)) (fun k_ hk => ⟨hk.2, hk.1.2⟩))) (fun _ h_ => Or.inl h_)) (Kd.R_mono (Kd.R_tight rfl (Kd.R_mono (ok' := fun k_ => ((fun k_ => k_ ≠ gb958)) k_ ∧ some k_ ≠ (u5 : Value).ownBlock) (Kd.R_types (Kd.R_apart' (HO956.out) (Kd.S_typed HO_5.out) (by decide)) BK958.out (by decide)) (fun k_ hk => ⟨hk.2, hk.1.2⟩))) (fun _ h_ => Or.inr (h_)))); (case aB => exact (bs HB (by simp [ag, GE929.out, GE958.out]))); (case aF => exact (fun k_ hk => Kd.freshB (g := gb958) (o := .cells #[.int .i64 t946, .int .i64 t947, .int .i64 t948, .int .i64 t949, .int .i64 t950, .slice Ao30 t951.length co30, .slice Ao31 t954.length co31] 42 (0, 0)) (bk BK958) k_ hk)); (case aO => exact (Kd.S_mono (sk HO_5) (fun k_ hk => ⟨hk.2.2, fun e_ => e_.elim (fun h_ => hk.1 h_) (fun h_ => hk.2.1 h_)⟩))); (case aS => exact (below_size (bs HB (by simp [ag, GE929.out, GE958.out])))); (case aL => have := LMc24.out; omega); intro v960 w34 ho hb hg hat; rw [← Ny959.out] at ho; replace BK929 := Aside0.mk (blk_grown (g := gb929) (o := .cells #[.int .u8 a0_0, .int .u8 a0_1, .int .u8 a0_2] 65 (0, 0)) (bk BK929) hg (Kd.S_ne HO_5.out BK929.out (by decide))); replace BK958 := Aside0.mk (blk_grown (g := gb958) (o := .cells #[.int .i64 t946, .int .i64 t947, .int .i64 t948, .int .i64 t949, .int .i64 t950, .slice Ao30 t951.length co30, .slice Ao31 t954.length co31] 42 (0, 0)) (bk BK958) hg (Kd.S_away HO_5.out (fun _ hk => hk.2.2))); replace HB := Aside0.mk (hb); have HO961 := Aside0.mk (ho); clear HO_5 HO953 HO956; clear ho hb hg hat))
        go_roundg k1
        case measure => have := HK1.out; omega
        case rel => exact ⟨(y959), (wrap64 (x6_1 + 1)), (by first | rfl | (simp; done) | (simp [*]; done)), H', ⟨by have := HK1.out; omega⟩, ⟨Kd.S_mono (sk HO961) (fun _ hk => trivial)⟩, ⟨bk BK929⟩, ⟨bs HB (by simp [ag, GE929.out, GE958.out])⟩⟩
       ·rw [if_neg c24] at H
        exact absurd H (by simp)
      ·rw [if_neg c23] at H
       exact absurd H (by simp)
     ·rw [if_neg c20] at H
      have c20b0 : (x6_1 == 1) = false := beq_eq_false_iff_ne.mpr c20
      have c20b1 : (x6_1 != 1) = true := bne_iff_ne.mpr c20
      by_cases c35 : x6_1 = 2
      ·rw [if_pos c35] at H
       have c35b0 : (x6_1 == 2) = true := beq_iff_eq.mpr c35
       have c35b1 : (x6_1 != 2) = false := bne_eq_false_iff_eq.mpr c35
       clear c35
       have z36b0 : x6_1 = 2 := by first | assumption | exact beq_iff_eq.mp (by assumption) | exact of_eq_true (by assumption) | omega
       have z36b1 : (0 ≤ x6_1) = True := eq_true (by omega)
       have z36b2 : (x6_1 < 3) = True := eq_true (by omega)
       have z36b3 : (x6_1).toNat = 2 := by omega
       have z36b4 : wrap64 (x6_1 + 1) = x6_1 + 1 := by unfold wrap64; omega
       clear z36b0
       replace H := Option.bind_eq_some_iff.mp H
       obtain ⟨⟨t962, t963, t964, t965, t966, t967, t970, t973⟩, A370, H⟩ := H
       try dsimp -implicitDefEqProofs -simprocs only at H
       have A37 := Aside0.mk A370
       clear A370
       by_cases c38 : t973 = 0
       ·rw [if_pos c38] at H
        have c38b0 : (t973 == 0) = true := beq_iff_eq.mpr c38
        have c38b1 : (t973 != 0) = false := bne_eq_false_iff_eq.mpr c38
        clear c38
        by_cases c39 : x5_1.length < 1599289640401
        ·rw [if_pos c39] at H
         have LMc39 := Aside0.mk c39
         clear c39
         obtain ⟨y975, hy975⟩ : ∃ y_ : List (S42), y_ = (x5_1 ++ [(⟨t962, t963, t964, t965, t966, t967, t970⟩ : S42)]) := ⟨_, rfl⟩
         replace H : (selvedgetop_TopNeighbours.l0 k1 a1 y975 (wrap64 (x6_1 + 1)) a0_0 a0_1 a0_2) = some r := by first | (rw [hy975]; with_reducible exact H) | (have H2_ := (Option.bind_some _ _).symm.trans H; rw [hy975]; with_reducible exact H2_) | (have H2_ := (Option.bind_some _ _).symm.trans H; with_reducible exact H2_) | with_reducible exact H | (rw [hy975]; exact H) | exact H
         have Ny975 := Aside0.mk hy975
         clear hy975
         have H' := Aside0.mk H
         clear H
         obtain ⟨hcz40_0, hcz40_1, hcz40_2, hfz40_0, hfz40_1, hfz40_2⟩ := cf3 BK929
         go_wp2_with (first | ((with_reducible refine gate_callee (f := 36) rfl ?_); refine goesL_ (some 31) rfl rfl Try.func36 (by kernel_rfl) rfl #[.int .i64 x6_1, .int .i64 (wrap64 ((Int.tmod (wrap64 (a0_2)) 30) + 1))] rfl (by simp only [List.map_toArray, List.map_cons, List.map_nil]; first | done | rfl) ?_; (with_reducible refine (cyl_New.calls k1 x6_1 (wrap64 ((Int.tmod (wrap64 (a0_2)) 30) + 1)) t962 t963 t964 t965 t966 t967 t970 t973 _ A37.out).mono ?_); rintro e w41 ⟨v968, v971, rfl, ho0, ho1, hb⟩; refine ⟨_, rfl, ?_⟩; have hone_v968 := Kd.R_one ho0; have hone_v971 := Kd.R_one ho1; replace HO_5 := Aside0.mk (Kd.S_mono (Kd.S_told (Kd.S_told (Kd.S_old (sk HO_5) hb) (Kd.R_base ho0)) (Kd.R_base ho1)) (fun _ h_ => h_.1)); have HO969 := Aside0.mk (Kd.R_lower ho0 (below_size (bs HB (by simp [ag, GE929.out])))); have HO972 := Aside0.mk (Kd.R_lower ho1 (below_size (bs HB (by simp [ag, GE929.out])))); replace BK929 := Aside0.mk (bb BK929 hb); replace HB := Aside0.mk (below_step (bs HB (by simp [ag, GE929.out])) hb); clear ho0 hb; (try clear ho1)) | ((with_reducible refine gate_dst (N := 7) rfl ?_); refine box_event rfl (N := 7) rfl (cs := #[.int .i64 0, .int .i64 0, .int .i64 0, .int .i64 0, .int .i64 0, .slice none 0 0, .slice none 0 0]) (t := 42) (by first | (go_simp; done) | (go_simp; rfl)) ?_; intro gb974 hg w42 hbox hb; replace HO_5 := Aside0.mk (Kd.S_below (Kd.S_elderB (sk HO_5) gb974 (Nat.le_of_eq hg.symm)) hb); replace HO969 := Aside0.mk (Kd.R_below (rk HO969) hb); replace HO972 := Aside0.mk (Kd.R_below (rk HO972) hb); have BK974 := Aside0.mk (hbox); have GW974 := gl HB hg (by simp [ag, GE929.out]); have GE974 := gl HB hg (by simp [ag, GE929.out]); replace HB := Aside0.mk (below_step (bs HB (by simp [ag, GE929.out])) hb); have NB929_974 := nl BK929 hg; have NB974_929 := nt BK929 hg; replace BK929 := Aside0.mk (bb BK929 hb); clear hb hbox hg; have hnb43 := NB974_929.out; have hnc43 := NB929_974.out; obtain ⟨hcz44_0, hcz44_1, hcz44_2, hcz44_3, hcz44_4, hcz44_5, hcz44_6, hfz44_0, hfz44_1, hfz44_2, hfz44_3, hfz44_4, hfz44_5, hfz44_6⟩ := cf7 BK974; obtain ⟨Ao45, co45, eo45⟩ := Kd.R_slice HO969.out; subst eo45; obtain ⟨Ao46, co46, eo46⟩ := Kd.R_slice HO972.out; subst eo46) | ((with_reducible refine gate_store (t := 42) (p := 7) rfl ?_); refine store_event (t := 42) (p := 7) (v := ?vo_w47) (w1 := (((((((w42.setCell ⟨gb974, 0, none⟩ (.int .i64 t962)).setCell ⟨gb974, 1, none⟩ (.int .i64 t963)).setCell ⟨gb974, 2, none⟩ (.int .i64 t964)).setCell ⟨gb974, 3, none⟩ (.int .i64 t965)).setCell ⟨gb974, 4, none⟩ (.int .i64 t966)).setCell ⟨gb974, 5, none⟩ (.slice Ao45 t967.length co45)).setCell ⟨gb974, 6, none⟩ (.slice Ao46 t970.length co46))) ?hg ?ho ?hn ?hr ?_; (case ho => rfl); (case hg => rfl); (case hn => rfl); (case hr => first | (go_simp; done) | (go_simp; rfl)); intro w47 hw; have n0_ : Aside0 (Kd.S k42 42 w47 w.heap.size (fun k_ => some k_ ≠ (.slice Ao45 t967.length co45 : Value).ownBlock ∧ some k_ ≠ (.slice Ao46 t970.length co46 : Value).ownBlock ∧ k_ ≠ gb974) u5 x5_1) := ⟨(by rw [hw]; exact (by (with_reducible repeat (first | apply Kd.S_alloc | apply Kd.S_drewN | apply Kd.S_drew)); exact Kd.S_mono (Kd.S_far (p := ⟨gb974, 6, none⟩) (Kd.S_far (p := ⟨gb974, 5, none⟩) (Kd.S_far (p := ⟨gb974, 4, none⟩) (Kd.S_far (p := ⟨gb974, 3, none⟩) (Kd.S_far (p := ⟨gb974, 2, none⟩) (Kd.S_far (p := ⟨gb974, 1, none⟩) (Kd.S_far (p := ⟨gb974, 0, none⟩) (Kd.S_mono HO_5.out (fun k_ hk => (⟨hk, hk.2⟩ : _ ∧ k_ ≠ gb974))) (fun _ hk => hk.2) (.int .i64 t962)) (fun _ hk => hk.2) (.int .i64 t963)) (fun _ hk => hk.2) (.int .i64 t964)) (fun _ hk => hk.2) (.int .i64 t965)) (fun _ hk => hk.2) (.int .i64 t966)) (fun _ hk => hk.2) (.slice Ao45 t967.length co45)) (fun _ hk => hk.2) (.slice Ao46 t970.length co46)) (fun _ hk => ⟨hk.1.1.1.2, ⟨hk.1.1.2, hk.1.2⟩⟩)))⟩; have n1_ : Aside0 (Kd.R (Kd.int .i64) 3 w47 w.heap.size (fun k_ => some k_ ≠ (.slice Ao46 t970.length co46 : Value).ownBlock) (.slice Ao45 t967.length co45) t967) := ⟨(by rw [hw]; exact (by (with_reducible repeat (first | apply Kd.R_alloc | apply Kd.R_drewN | apply Kd.R_drew)); exact Kd.R_mono (Kd.R_far (p := ⟨gb974, 6, none⟩) (Kd.R_far (p := ⟨gb974, 5, none⟩) (Kd.R_far (p := ⟨gb974, 4, none⟩) (Kd.R_far (p := ⟨gb974, 3, none⟩) (Kd.R_far (p := ⟨gb974, 2, none⟩) (Kd.R_far (p := ⟨gb974, 1, none⟩) (Kd.R_far (p := ⟨gb974, 0, none⟩) (Kd.R_types HO969.out BK974.out (by decide)) (fun _ hk => hk.2) (.int .i64 t962)) (fun _ hk => hk.2) (.int .i64 t963)) (fun _ hk => hk.2) (.int .i64 t964)) (fun _ hk => hk.2) (.int .i64 t965)) (fun _ hk => hk.2) (.int .i64 t966)) (fun _ hk => hk.2) (.slice Ao45 t967.length co45)) (fun _ hk => hk.2) (.slice Ao46 t970.length co46)) (fun _ hk => hk.1)))⟩; have n2_ : Aside0 (Kd.R (Kd.int .i64) 3 w47 w.heap.size (fun k_ => some k_ ≠ (.slice Ao45 t967.length co45 : Value).ownBlock) (.slice Ao46 t970.length co46) t970) := ⟨(by rw [hw]; exact (by (with_reducible repeat (first | apply Kd.R_alloc | apply Kd.R_drewN | apply Kd.R_drew)); exact Kd.R_mono (Kd.R_far (p := ⟨gb974, 6, none⟩) (Kd.R_far (p := ⟨gb974, 5, none⟩) (Kd.R_far (p := ⟨gb974, 4, none⟩) (Kd.R_far (p := ⟨gb974, 3, none⟩) (Kd.R_far (p := ⟨gb974, 2, none⟩) (Kd.R_far (p := ⟨gb974, 1, none⟩) (Kd.R_far (p := ⟨gb974, 0, none⟩) (Kd.R_types HO972.out BK974.out (by decide)) (fun _ hk => hk.2) (.int .i64 t962)) (fun _ hk => hk.2) (.int .i64 t963)) (fun _ hk => hk.2) (.int .i64 t964)) (fun _ hk => hk.2) (.int .i64 t965)) (fun _ hk => hk.2) (.int .i64 t966)) (fun _ hk => hk.2) (.slice Ao45 t967.length co45)) (fun _ hk => hk.2) (.slice Ao46 t970.length co46)) (fun _ hk => hk.1)))⟩; have n3_ : Aside0 (w47.heap[gb929]? = some (.cells #[.int .u8 a0_0, .int .u8 a0_1, .int .u8 a0_2] 65 (0, 0))) := ⟨(by rw [hw]; exact (by (with_reducible repeat (first | refine blk_drewN ?_ _ | refine blk_drew ?_ | refine blk_alloc ?_ _)); refine blk_far ?_ NB929_974.out _; (with_reducible repeat (first | refine blk_drewN ?_ _ | refine blk_drew ?_ | refine blk_alloc ?_ _)); refine blk_far ?_ NB929_974.out _; (with_reducible repeat (first | refine blk_drewN ?_ _ | refine blk_drew ?_ | refine blk_alloc ?_ _)); refine blk_far ?_ NB929_974.out _; (with_reducible repeat (first | refine blk_drewN ?_ _ | refine blk_drew ?_ | refine blk_alloc ?_ _)); refine blk_far ?_ NB929_974.out _; (with_reducible repeat (first | refine blk_drewN ?_ _ | refine blk_drew ?_ | refine blk_alloc ?_ _)); refine blk_far ?_ NB929_974.out _; (with_reducible repeat (first | refine blk_drewN ?_ _ | refine blk_drew ?_ | refine blk_alloc ?_ _)); refine blk_far ?_ NB929_974.out _; (with_reducible repeat (first | refine blk_drewN ?_ _ | refine blk_drew ?_ | refine blk_alloc ?_ _)); refine blk_far ?_ NB929_974.out _; (with_reducible repeat (first | refine blk_drewN ?_ _ | refine blk_drew ?_ | refine blk_alloc ?_ _)); exact BK929.out))⟩; have n4_ : Aside0 (w47.heap[gb974]? = some (.cells #[.int .i64 t962, .int .i64 t963, .int .i64 t964, .int .i64 t965, .int .i64 t966, .slice Ao45 t967.length co45, .slice Ao46 t970.length co46] 42 (0, 0))) := ⟨(by rw [hw]; exact (by (with_reducible repeat (first | refine blk_drewN ?_ _ | refine blk_drew ?_ | refine blk_alloc ?_ _)); refine blk_put (cs := #[.int .i64 t962, .int .i64 t963, .int .i64 t964, .int .i64 t965, .int .i64 t966, .slice Ao45 t967.length co45, .slice none 0 0]) ?_ 6 _ rfl; (with_reducible repeat (first | refine blk_drewN ?_ _ | refine blk_drew ?_ | refine blk_alloc ?_ _)); refine blk_put (cs := #[.int .i64 t962, .int .i64 t963, .int .i64 t964, .int .i64 t965, .int .i64 t966, .slice none 0 0, .slice none 0 0]) ?_ 5 _ rfl; (with_reducible repeat (first | refine blk_drewN ?_ _ | refine blk_drew ?_ | refine blk_alloc ?_ _)); refine blk_put (cs := #[.int .i64 t962, .int .i64 t963, .int .i64 t964, .int .i64 t965, .int .i64 0, .slice none 0 0, .slice none 0 0]) ?_ 4 _ rfl; (with_reducible repeat (first | refine blk_drewN ?_ _ | refine blk_drew ?_ | refine blk_alloc ?_ _)); refine blk_put (cs := #[.int .i64 t962, .int .i64 t963, .int .i64 t964, .int .i64 0, .int .i64 0, .slice none 0 0, .slice none 0 0]) ?_ 3 _ rfl; (with_reducible repeat (first | refine blk_drewN ?_ _ | refine blk_drew ?_ | refine blk_alloc ?_ _)); refine blk_put (cs := #[.int .i64 t962, .int .i64 t963, .int .i64 0, .int .i64 0, .int .i64 0, .slice none 0 0, .slice none 0 0]) ?_ 2 _ rfl; (with_reducible repeat (first | refine blk_drewN ?_ _ | refine blk_drew ?_ | refine blk_alloc ?_ _)); refine blk_put (cs := #[.int .i64 t962, .int .i64 0, .int .i64 0, .int .i64 0, .int .i64 0, .slice none 0 0, .slice none 0 0]) ?_ 1 _ rfl; (with_reducible repeat (first | refine blk_drewN ?_ _ | refine blk_drew ?_ | refine blk_alloc ?_ _)); refine blk_put (cs := #[.int .i64 0, .int .i64 0, .int .i64 0, .int .i64 0, .int .i64 0, .slice none 0 0, .slice none 0 0]) ?_ 0 _ rfl; (with_reducible repeat (first | refine blk_drewN ?_ _ | refine blk_drew ?_ | refine blk_alloc ?_ _)); exact BK974.out))⟩; have n5_ : Aside0 (Below w.heap.size w w47) := ⟨(by rw [hw]; exact (bs HB (by simp [ag, GE929.out, GE974.out])))⟩; clear hw; clear HO_5; clear HO969; clear HO972; clear BK929; clear BK974; clear HB; have HO_5 := n0_; have HO969 := n1_; have HO972 := n2_; have BK929 := n3_; have BK974 := n4_; have HB := n5_; clear n0_ n1_ n2_ n3_ n4_ n5_; obtain ⟨hcz48_0, hcz48_1, hcz48_2, hcz48_3, hcz48_4, hcz48_5, hcz48_6, hfz48_0, hfz48_1, hfz48_2, hfz48_3, hfz48_4, hfz48_5, hfz48_6⟩ := cf7 BK974) | ((with_reducible refine gate_builtin (b := .append) (xs := #[.tmp 36, .tmp 38]) rfl ?_); at_builtin; refine Kd.S_append k42 (w0 := w) w.heap.size rfl (.tmp 36) (.tmp 38) 22 42 (.agg #[(.int .i64 0), (.int .i64 0), (.int .i64 0), (.int .i64 0), (.int .i64 0), (.slice none 0 0), (.slice none 0 0)]) 88 rfl Try.underlying22 info42 rfl (by decide) (by omega) u5 x5_1 (⟨t962, t963, t964, t965, t966, t967, t970⟩ : S42) [.int .i64 t962, .int .i64 t963, .int .i64 t964, .int .i64 t965, .int .i64 t966, .slice Ao45 t967.length co45, .slice Ao46 t970.length co46] (fun k_ => k_ ≠ gb974) (fun k_ => some k_ = (.slice Ao45 t967.length co45 : Value).ownBlock ∨ some k_ = (.slice Ao46 t970.length co46 : Value).ownBlock) rfl rfl ?aP (fun k_ hk_ => hk_.elim (fun h_ => ((Kd.R_mono (ok' := fun k_ => ((fun k_ => k_ ≠ gb974)) k_ ∧ some k_ ≠ (u5 : Value).ownBlock) (Kd.R_types (Kd.R_apart' (HO969.out) (Kd.S_typed HO_5.out) (by decide)) BK974.out (by decide)) (fun k_ hk => ⟨hk.2, hk.1.2⟩))).1 k_ h_.symm) (fun h_ => ((Kd.R_mono (ok' := fun k_ => ((fun k_ => k_ ≠ gb974)) k_ ∧ some k_ ≠ (u5 : Value).ownBlock) (Kd.R_types (Kd.R_apart' (HO972.out) (Kd.S_typed HO_5.out) (by decide)) BK974.out (by decide)) (fun k_ hk => ⟨hk.2, hk.1.2⟩))).1 k_ h_.symm)) ?aF ?aO ?aB ?aS ?aL ?_; (case aP => exact k42_mkM _ _ _ (⟨t962, t963, t964, t965, t966, t967, t970⟩ : S42) (Kd.R_mono (Kd.R_tight rfl (Kd.R_mono (ok' := fun k_ => ((fun k_ => k_ ≠ gb974)) k_ ∧ some k_ ≠ (u5 : Value).ownBlock) (Kd.R_types (Kd.R_apart' (HO969.out) (Kd.S_typed HO_5.out) (by decide)) BK974.out (by decide)) (fun k_ hk => ⟨hk.2, hk.1.2⟩))) (fun _ h_ => Or.inl h_)) (Kd.R_mono (Kd.R_tight rfl (Kd.R_mono (ok' := fun k_ => ((fun k_ => k_ ≠ gb974)) k_ ∧ some k_ ≠ (u5 : Value).ownBlock) (Kd.R_types (Kd.R_apart' (HO972.out) (Kd.S_typed HO_5.out) (by decide)) BK974.out (by decide)) (fun k_ hk => ⟨hk.2, hk.1.2⟩))) (fun _ h_ => Or.inr (h_)))); (case aB => exact (bs HB (by simp [ag, GE929.out, GE974.out]))); (case aF => exact (fun k_ hk => Kd.freshB (g := gb974) (o := .cells #[.int .i64 t962, .int .i64 t963, .int .i64 t964, .int .i64 t965, .int .i64 t966, .slice Ao45 t967.length co45, .slice Ao46 t970.length co46] 42 (0, 0)) (bk BK974) k_ hk)); (case aO => exact (Kd.S_mono (sk HO_5) (fun k_ hk => ⟨hk.2.2, fun e_ => e_.elim (fun h_ => hk.1 h_) (fun h_ => hk.2.1 h_)⟩))); (case aS => exact (below_size (bs HB (by simp [ag, GE929.out, GE974.out])))); (case aL => have := LMc39.out; omega); intro v976 w49 ho hb hg hat; rw [← Ny975.out] at ho; replace BK929 := Aside0.mk (blk_grown (g := gb929) (o := .cells #[.int .u8 a0_0, .int .u8 a0_1, .int .u8 a0_2] 65 (0, 0)) (bk BK929) hg (Kd.S_ne HO_5.out BK929.out (by decide))); replace BK974 := Aside0.mk (blk_grown (g := gb974) (o := .cells #[.int .i64 t962, .int .i64 t963, .int .i64 t964, .int .i64 t965, .int .i64 t966, .slice Ao45 t967.length co45, .slice Ao46 t970.length co46] 42 (0, 0)) (bk BK974) hg (Kd.S_away HO_5.out (fun _ hk => hk.2.2))); replace HB := Aside0.mk (hb); have HO977 := Aside0.mk (ho); clear HO_5 HO969 HO972; clear ho hb hg hat))
         go_roundg k1
         case measure => have := HK1.out; omega
         case rel => exact ⟨(y975), (wrap64 (x6_1 + 1)), (by first | rfl | (simp; done) | (simp [*]; done)), H', ⟨by have := HK1.out; omega⟩, ⟨Kd.S_mono (sk HO977) (fun _ hk => trivial)⟩, ⟨bk BK929⟩, ⟨bs HB (by simp [ag, GE929.out, GE974.out])⟩⟩
        ·rw [if_neg c39] at H
         exact absurd H (by simp)
       ·rw [if_neg c38] at H
        exact absurd H (by simp)
      ·rw [if_neg c35] at H
       exact absurd H (by simp)
   ·rw [if_neg c4] at H
    have c4b0 : decide (x6_1 < 3) = false := decide_eq_false c4
    clear c4
    obtain ⟨ji50, hji50⟩ : ∃ j_ : Int, (Int.tmod (wrap64 (a1)) 3) = j_ := ⟨_, rfl⟩
    replace H : (if 0 ≤ (ji50) then (if (ji50) < (x5_1.length : Int) then (selvedgetop_TopNeighbours.l1 k1 x5_1 ji50 ((rd_T42 x5_1 (ji50)).f1) 0 ji50 0) else (none)) else (none)) = some r := by first | (rw [hji50] at H; exact H) | (simp only [hji50] at H ⊢; exact H)
    by_cases c51 : 0 ≤ (ji50)
    ·rw [if_pos c51] at H
     have c51b0 : decide (0 ≤ (ji50)) = true := decide_eq_true c51
     clear c51
     by_cases c52 : (ji50) < (x5_1.length : Int)
     ·rw [if_pos c52] at H
      have c52b0 : decide ((ji50) < (x5_1.length : Int)) = true := decide_eq_true c52
      clear c52
      have H' := Aside0.mk H
      clear H
      go_wp2_with (first | ((with_reducible refine gate_dst (N := 10) rfl ?_); refine box_event rfl (N := 10) rfl (cs := #[.int .i64 0, .int .i64 0]) (t := 24) (by first | (go_simp; done) | (go_simp; rfl)) ?_; intro gb978 hg w53 hbox hb; replace HO_5 := Aside0.mk (Kd.S_below (sk HO_5) hb); have BK978 := Aside0.mk (hbox); have GW978 := gl HB hg (by simp [ag, GE929.out]); have GE978 := gl HB hg (by simp [ag, GE929.out]); replace HB := Aside0.mk (below_step (bs HB (by simp [ag, GE929.out])) hb); have NB929_978 := nl BK929 hg; have NB978_929 := nt BK929 hg; replace BK929 := Aside0.mk (bb BK929 hb); clear hb hbox hg; have hnb54 := NB978_929.out; have hnc54 := NB929_978.out; obtain ⟨hcz55_0, hcz55_1, hfz55_0, hfz55_1⟩ := cf2 BK978) | ((with_reducible refine gate_store (t := 24) (p := 10) rfl ?_); refine store_event (t := 24) (p := 10) (v := ?vo_w56) (w1 := ((w53.setCell ⟨gb978, 0, none⟩ (.int .i64 ji50)).setCell ⟨gb978, 1, none⟩ (.int .i64 0))) ?hg ?ho ?hn ?hr ?_; (case ho => rfl); (case hg => rfl); (case hn => rfl); (case hr => first | (go_simp; done) | (go_simp; rfl)); intro w56 hw; have n0_ : Aside0 (Kd.S k42 42 w56 w.heap.size (fun _ => True) u5 x5_1) := ⟨(by rw [hw]; exact (by (with_reducible repeat (first | apply Kd.S_alloc | apply Kd.S_drewN | apply Kd.S_drew)); exact Kd.S_mono (Kd.S_far (p := ⟨gb978, 1, none⟩) (Kd.S_far (p := ⟨gb978, 0, none⟩) (Kd.S_types HO_5.out BK978.out (by decide)) (fun _ hk => hk.2) (.int .i64 ji50)) (fun _ hk => hk.2) (.int .i64 0)) (fun _ hk => trivial)))⟩; have n1_ : Aside0 (w56.heap[gb929]? = some (.cells #[.int .u8 a0_0, .int .u8 a0_1, .int .u8 a0_2] 65 (0, 0))) := ⟨(by rw [hw]; exact (by (with_reducible repeat (first | refine blk_drewN ?_ _ | refine blk_drew ?_ | refine blk_alloc ?_ _)); refine blk_far ?_ NB929_978.out _; (with_reducible repeat (first | refine blk_drewN ?_ _ | refine blk_drew ?_ | refine blk_alloc ?_ _)); refine blk_far ?_ NB929_978.out _; (with_reducible repeat (first | refine blk_drewN ?_ _ | refine blk_drew ?_ | refine blk_alloc ?_ _)); exact BK929.out))⟩; have n2_ : Aside0 (w56.heap[gb978]? = some (.cells #[.int .i64 ji50, .int .i64 0] 24 (0, 0))) := ⟨(by rw [hw]; exact (by (with_reducible repeat (first | refine blk_drewN ?_ _ | refine blk_drew ?_ | refine blk_alloc ?_ _)); refine blk_put (cs := #[.int .i64 ji50, .int .i64 0]) ?_ 1 _ rfl; (with_reducible repeat (first | refine blk_drewN ?_ _ | refine blk_drew ?_ | refine blk_alloc ?_ _)); refine blk_put (cs := #[.int .i64 0, .int .i64 0]) ?_ 0 _ rfl; (with_reducible repeat (first | refine blk_drewN ?_ _ | refine blk_drew ?_ | refine blk_alloc ?_ _)); exact BK978.out))⟩; have n3_ : Aside0 (Below w.heap.size w w56) := ⟨(by rw [hw]; exact (bs HB (by simp [ag, GE929.out, GE978.out])))⟩; clear hw; clear HO_5; clear BK929; clear BK978; clear HB; have HO_5 := n0_; have BK929 := n1_; have BK978 := n2_; have HB := n3_; clear n0_ n1_ n2_ n3_; obtain ⟨Ao57, co57, eo57⟩ := Kd.S_slice HO_5.out; subst eo57; have p979 : 0 ≤ ((ji50) : Int) := of_decide_eq_true (by assumption); have q979 : (ji50) < (x5_1.length : Int) := of_decide_eq_true (by assumption); obtain ⟨ad979, A979_5, c979_5, A979_6, c979_6, e979, hx979_0, hx979_1, hx979_2, hx979_3, hx979_4, hx979_5, hx979_6, hl979_5, hi979_5, hl979_6, hi979_6⟩ := at_T42 (Kd.S_reads' HO_5.out).2.2 (ji50) p979 q979; cases e979; obtain ⟨ce979, hce979, hMe979, hcc979⟩ := Kd.S_get HO_5.out z42 (ji50) p979 (by first | exact q979 | exact of_decide_eq_true (by assumption) | (have e_ := (Kd.S_reads' HO_5.out).1; omega)); obtain ⟨ve979_5, ve979_6, rfl, ge979_5, ge979_6⟩ := k42_openM hMe979; have hv979_5 := hcc979 5 _ rfl; rw [add_field _ _ 5 (by omega)] at hv979_5; replace hv979_5 := Option.some.inj (hv979_5.symm.trans hx979_5); rw [hv979_5] at ge979_5; have HL979_5 := Aside0.mk (show Kd.R (Kd.int .i64) 3 _ _ _ _ ((rd_T42 x5_1 (ji50)).f5) from ge979_5); clear hv979_5 ge979_5; have hv979_6 := hcc979 6 _ rfl; rw [add_field _ _ 6 (by omega)] at hv979_6; replace hv979_6 := Option.some.inj (hv979_6.symm.trans hx979_6); rw [hv979_6] at ge979_6; have HL979_6 := Aside0.mk (show Kd.R (Kd.int .i64) 3 _ _ _ _ ((rd_T42 x5_1 (ji50)).f6) from ge979_6); clear hv979_6 ge979_6; clear hcc979 hce979; have HR979_5 := Aside0.mk hi979_5; have HC979_5 := Aside0.mk hl979_5; clear hi979_5 hl979_5; have HR979_6 := Aside0.mk hi979_6; have HC979_6 := Aside0.mk hl979_6; clear hi979_6 hl979_6; replace p979 := eq_true p979; replace q979 := eq_true q979))
      go_loopg [5, 12] k1 (fun kq v5 v12 w' => ∃ (x5_2 : List (S42)) (x12_2 : Int) (x979000_2 : Int) (x979001_2 : Int), v12 = .int .i64 x12_2 ∧ Aside0 (selvedgetop_TopNeighbours.l1 kq x5_2 ji50 ((rd_T42 x5_1 (ji50)).f1) x12_2 x979000_2 x979001_2 = some r) ∧ Aside0 (kq ≤ k1) ∧ Aside0 (Kd.S k42 42 w' w.heap.size (fun _ => True) v5 x5_2) ∧ Aside0 (w'.heap[gb929]? = some (.cells #[.int .u8 a0_0, .int .u8 a0_1, .int .u8 a0_2] 65 (0, 0))) ∧ Aside0 (w'.heap[gb978]? = some (.cells #[.int .i64 x979000_2, .int .i64 x979001_2] 24 (0, 0))) ∧ Aside0 (Below w.heap.size w w'))
      case atStart => exact ⟨(x5_1), (0), (ji50), (0), (by first | rfl | (simp; done) | (simp [*]; done)), H', ⟨Nat.le_refl _⟩, ⟨sk HO_5⟩, ⟨bk BK929⟩, ⟨bk BK978⟩, ⟨bs HB (by simp [ag, GE929.out, GE978.out])⟩⟩
      case round =>
       clear H'
       try clear c1
       try clear c2
       try clear p2
       try clear c3
       try clear c4
       try clear c4b0
       try clear c5
       try clear c5b0
       try clear c5b1
       try clear p6
       try clear c8
       try clear c8b0
       try clear c8b1
       try clear c9
       try clear p9
       try clear q9
       try clear hx9
       try clear c11
       try clear c13
       try clear c20
       try clear c20b0
       try clear c20b1
       try clear c23
       try clear c23b0
       try clear c23b1
       try clear c24
       try clear c28
       try clear c35
       try clear c35b0
       try clear c35b1
       try clear c36
       try clear c38
       try clear c38b0
       try clear c38b1
       try clear c39
       try clear c43
       try clear c51
       try clear c51b0
       try clear c52
       try clear c52b0
       try clear c54
       try clear hcz10_0
       try clear hcz10_1
       try clear hcz10_2
       try clear hcz14_0
       try clear hcz14_1
       try clear hcz14_2
       try clear hcz14_3
       try clear hcz14_4
       try clear hcz14_5
       try clear hcz14_6
       try clear hcz18_0
       try clear hcz18_1
       try clear hcz18_2
       try clear hcz18_3
       try clear hcz18_4
       try clear hcz18_5
       try clear hcz18_6
       try clear hcz25_0
       try clear hcz25_1
       try clear hcz25_2
       try clear hcz29_0
       try clear hcz29_1
       try clear hcz29_2
       try clear hcz29_3
       try clear hcz29_4
       try clear hcz29_5
       try clear hcz29_6
       try clear hcz33_0
       try clear hcz33_1
       try clear hcz33_2
       try clear hcz33_3
       try clear hcz33_4
       try clear hcz33_5
       try clear hcz33_6
       try clear hcz40_0
       try clear hcz40_1
       try clear hcz40_2
       try clear hcz44_0
       try clear hcz44_1
       try clear hcz44_2
       try clear hcz44_3
       try clear hcz44_4
       try clear hcz44_5
       try clear hcz44_6
       try clear hcz48_0
       try clear hcz48_1
       try clear hcz48_2
       try clear hcz48_3
       try clear hcz48_4
       try clear hcz48_5
       try clear hcz48_6
       try clear hcz55_0
       try clear hcz55_1
       try clear hfz10_0
       try clear hfz10_1
       try clear hfz10_2
       try clear hfz14_0
       try clear hfz14_1
       try clear hfz14_2
       try clear hfz14_3
       try clear hfz14_4
       try clear hfz14_5
       try clear hfz14_6
       try clear hfz18_0
       try clear hfz18_1
       try clear hfz18_2
       try clear hfz18_3
       try clear hfz18_4
       try clear hfz18_5
       try clear hfz18_6
       try clear hfz25_0
       try clear hfz25_1
       try clear hfz25_2
       try clear hfz29_0
       try clear hfz29_1
       try clear hfz29_2
       try clear hfz29_3
       try clear hfz29_4
       try clear hfz29_5
       try clear hfz29_6
       try clear hfz33_0
       try clear hfz33_1
       try clear hfz33_2
       try clear hfz33_3
       try clear hfz33_4
       try clear hfz33_5
       try clear hfz33_6
       try clear hfz40_0
       try clear hfz40_1
       try clear hfz40_2
       try clear hfz44_0
       try clear hfz44_1
       try clear hfz44_2
       try clear hfz44_3
       try clear hfz44_4
       try clear hfz44_5
       try clear hfz44_6
       try clear hfz48_0
       try clear hfz48_1
       try clear hfz48_2
       try clear hfz48_3
       try clear hfz48_4
       try clear hfz48_5
       try clear hfz48_6
       try clear hfz55_0
       try clear hfz55_1
       try clear hx979_0
       try clear hx979_1
       try clear hx979_2
       try clear hx979_3
       try clear hx979_4
       try clear hx979_5
       try clear hx979_6
       try clear p2
       try clear p979
       try clear q979
       obtain ⟨x5_2, x12_2, x979000_2, x979001_2, rfl, HA, HK2, HO_5, BK929, BK978, HB⟩ := hrel
       cases gk with
       | zero => exact absurd HA.out (by simp [selvedgetop_TopNeighbours.l1])
       | succ k2 =>
        have H := HA.out
        clear HA
        simp only [selvedgetop_TopNeighbours.l1] at H
        by_cases c58 : x12_2 < ((rd_T42 x5_1 (ji50)).f1)
        ·rw [if_pos c58] at H
         have c58b0 : decide (x12_2 < ((rd_T42 x5_1 (ji50)).f1)) = true := decide_eq_true c58
         clear c58
         replace H := Option.bind_eq_some_iff.mp H
         obtain ⟨⟨t980, t983, t984, t985⟩, A590, H⟩ := H
         try dsimp -implicitDefEqProofs -simprocs only at H
         have A59 := Aside0.mk A590
         clear A590
         by_cases c60 : t985 = 0
         ·rw [if_pos c60] at H
          have c60b0 : (t985 == 0) = true := beq_iff_eq.mpr c60
          have c60b1 : (t985 != 0) = false := bne_eq_false_iff_eq.mpr c60
          clear c60
          by_cases c61 : t983 = ji50
          ·rw [if_pos c61] at H
           have c61b0 : (t983 == ji50) = true := beq_iff_eq.mpr c61
           have c61b1 : (t983 != ji50) = false := bne_eq_false_iff_eq.mpr c61
           clear c61
           by_cases c62 : t984 = x12_2
           ·rw [if_pos c62] at H
            have c62b0 : (t984 == x12_2) = true := beq_iff_eq.mpr c62
            have c62b1 : (t984 != x12_2) = false := bne_eq_false_iff_eq.mpr c62
            clear c62
            have H' := Aside0.mk H
            clear H
            have hnb63 := NB978_929.out
            have hnc63 := NB929_978.out
            obtain ⟨hcz64_0, hcz64_1, hfz64_0, hfz64_1⟩ := cf2 BK978
            obtain ⟨Ao65, co65, eo65⟩ := Kd.S_slice HO_5.out
            subst eo65
            try go_wp2_with (first | ((with_reducible refine gate_callee (f := 13) rfl ?_); refine goesL_ (some 58) rfl rfl Try.func13 (by kernel_rfl) rfl #[.slice Ao65 x5_2.length co65, .agg #[.int .i64 x979000_2, .int .i64 x979001_2]] rfl (by (try simp only [List.map_toArray, List.map_cons, List.map_nil]); first | done | rfl | (simp only [List.length_drop, List.length_take]; rfl)) ?_; (with_reducible refine (cyl_Take.calls _ _ x5_2 x979000_2 x979001_2 t980 t983 t984 t985 _ ?side1 ?side2 A59.out).mono ?_); (case side1 => repeat (first | exact (Kd.S_reads' HO_5.out).2.2 | (with_reducible refine Kd.C_alloc ?_ _) | (with_reducible refine Kd.C_drewN ?_ _) | (with_reducible refine Kd.C_drew ?_))); (case side2 => exact (Kd.S_reads' HO_5.out).2.1); rintro e w66 ⟨v981, rfl, ho0, hb⟩; refine ⟨_, rfl, ?_⟩; have hone_v981 := Kd.S_one ho0; have HO982 := Aside0.mk (Kd.S_lower (Kd.S_new' ho0 (Kd.S_lt (sk HO_5))) (below_size (bs HB (by simp [ag, GE929.out, GE978.out])))); replace HO_5 := Aside0.mk (Kd.S_elder' (sk HO_5) (Kd.S_base ho0) hb); replace BK929 := Aside0.mk (bb BK929 hb); replace BK978 := Aside0.mk (bb BK978 hb); replace HB := Aside0.mk (below_step (bs HB (by simp [ag, GE929.out, GE978.out])) hb); clear ho0 hb) | ((with_reducible refine gate_dst (N := 14) rfl ?_); refine box_event rfl (N := 14) rfl (cs := #[.int .i64 0, .int .i64 0]) (t := 24) (by first | (go_simp; done) | (go_simp; rfl)) ?_; intro gb986 hg w67 hbox hb; replace HO_5 := Aside0.mk (Kd.S_below (sk HO_5) hb); replace HO982 := Aside0.mk (Kd.S_below (sk HO982) hb); have BK986 := Aside0.mk (hbox); have GW986 := gl HB hg (by simp [ag, GE929.out, GE978.out]); have GE986 := gl HB hg (by simp [ag, GE929.out, GE978.out]); replace HB := Aside0.mk (below_step (bs HB (by simp [ag, GE929.out, GE978.out])) hb); have NB929_986 := nl BK929 hg; have NB986_929 := nt BK929 hg; replace BK929 := Aside0.mk (bb BK929 hb); have NB978_986 := nl BK978 hg; have NB986_978 := nt BK978 hg; replace BK978 := Aside0.mk (bb BK978 hb); clear hb hbox hg; have hnb68 := NB986_929.out; have hnc68 := NB929_986.out; have hnb69 := NB986_978.out; have hnc69 := NB978_986.out; obtain ⟨hcz70_0, hcz70_1, hfz70_0, hfz70_1⟩ := cf2 BK986))
            have n0_ : Aside0 (Kd.S k42 42 ((w67.setCell ⟨gb986, 0, none⟩ (.int .i64 t983)).setCell ⟨gb986, 1, none⟩ (.int .i64 t984)) w.heap.size (fun k_ => some k_ ≠ (v981 : Value).ownBlock) (.slice Ao65 x5_2.length co65) x5_2) := ⟨by (with_reducible repeat (first | apply Kd.S_alloc | apply Kd.S_drewN | apply Kd.S_drew)); exact Kd.S_mono (Kd.S_far (p := ⟨gb986, 1, none⟩) (Kd.S_far (p := ⟨gb986, 0, none⟩) (Kd.S_types HO_5.out BK986.out (by decide)) (fun _ hk => hk.2) (.int .i64 t983)) (fun _ hk => hk.2) (.int .i64 t984)) (fun _ hk => hk.1.2)⟩
            have n1_ : Aside0 (Kd.S k42 42 ((w67.setCell ⟨gb986, 0, none⟩ (.int .i64 t983)).setCell ⟨gb986, 1, none⟩ (.int .i64 t984)) w.heap.size (fun k_ => some k_ ≠ (.slice Ao65 x5_2.length co65 : Value).ownBlock) v981 t980) := ⟨by (with_reducible repeat (first | apply Kd.S_alloc | apply Kd.S_drewN | apply Kd.S_drew)); exact Kd.S_mono (Kd.S_far (p := ⟨gb986, 1, none⟩) (Kd.S_far (p := ⟨gb986, 0, none⟩) (Kd.S_types HO982.out BK986.out (by decide)) (fun _ hk => hk.2) (.int .i64 t983)) (fun _ hk => hk.2) (.int .i64 t984)) (fun _ hk => hk.1.2)⟩
            have n2_ : Aside0 (((w67.setCell ⟨gb986, 0, none⟩ (.int .i64 t983)).setCell ⟨gb986, 1, none⟩ (.int .i64 t984)).heap[gb929]? = some (.cells #[.int .u8 a0_0, .int .u8 a0_1, .int .u8 a0_2] 65 (0, 0))) := ⟨by (with_reducible repeat (first | refine blk_drewN ?_ _ | refine blk_drew ?_ | refine blk_alloc ?_ _)); refine blk_far ?_ NB929_986.out _; (with_reducible repeat (first | refine blk_drewN ?_ _ | refine blk_drew ?_ | refine blk_alloc ?_ _)); refine blk_far ?_ NB929_986.out _; (with_reducible repeat (first | refine blk_drewN ?_ _ | refine blk_drew ?_ | refine blk_alloc ?_ _)); exact BK929.out⟩
            have n3_ : Aside0 (((w67.setCell ⟨gb986, 0, none⟩ (.int .i64 t983)).setCell ⟨gb986, 1, none⟩ (.int .i64 t984)).heap[gb978]? = some (.cells #[.int .i64 x979000_2, .int .i64 x979001_2] 24 (0, 0))) := ⟨by (with_reducible repeat (first | refine blk_drewN ?_ _ | refine blk_drew ?_ | refine blk_alloc ?_ _)); refine blk_far ?_ NB978_986.out _; (with_reducible repeat (first | refine blk_drewN ?_ _ | refine blk_drew ?_ | refine blk_alloc ?_ _)); refine blk_far ?_ NB978_986.out _; (with_reducible repeat (first | refine blk_drewN ?_ _ | refine blk_drew ?_ | refine blk_alloc ?_ _)); exact BK978.out⟩
            have n4_ : Aside0 (((w67.setCell ⟨gb986, 0, none⟩ (.int .i64 t983)).setCell ⟨gb986, 1, none⟩ (.int .i64 t984)).heap[gb986]? = some (.cells #[.int .i64 t983, .int .i64 t984] 24 (0, 0))) := ⟨by (with_reducible repeat (first | refine blk_drewN ?_ _ | refine blk_drew ?_ | refine blk_alloc ?_ _)); refine blk_put (cs := #[.int .i64 t983, .int .i64 0]) ?_ 1 _ rfl; (with_reducible repeat (first | refine blk_drewN ?_ _ | refine blk_drew ?_ | refine blk_alloc ?_ _)); refine blk_put (cs := #[.int .i64 0, .int .i64 0]) ?_ 0 _ rfl; (with_reducible repeat (first | refine blk_drewN ?_ _ | refine blk_drew ?_ | refine blk_alloc ?_ _)); exact BK986.out⟩
            have n5_ : Aside0 (Below w.heap.size w ((w67.setCell ⟨gb986, 0, none⟩ (.int .i64 t983)).setCell ⟨gb986, 1, none⟩ (.int .i64 t984))) := ⟨bs HB (by simp [ag, GE929.out, GE978.out, GE986.out])⟩
            (try clear HO_5)
            (try clear HO982)
            (try clear BK929)
            (try clear BK978)
            (try clear BK986)
            (try clear HB)
            generalize ((w67.setCell ⟨gb986, 0, none⟩ (.int .i64 t983)).setCell ⟨gb986, 1, none⟩ (.int .i64 t984)) = w71 at n0_ n1_ n2_ n3_ n4_ n5_ ⊢
            have HO_5 := n0_
            have HO982 := n1_
            have BK929 := n2_
            have BK978 := n3_
            have BK986 := n4_
            have HB := n5_
            clear n0_ n1_ n2_ n3_ n4_ n5_
            have n0_ := Aside0.mk (Kd.S_drew HO_5.out)
            have n1_ := Aside0.mk (Kd.S_drew HO982.out)
            have n2_ := Aside0.mk (blk_drew BK929.out)
            have n3_ := Aside0.mk (blk_drew BK978.out)
            have n4_ := Aside0.mk (blk_drew BK986.out)
            have n5_ := Aside0.mk (below_drew1 HB.out)
            clear HO_5
            clear HO982
            clear BK929
            clear BK978
            clear BK986
            clear HB
            have HO_5 := n0_
            have HO982 := n1_
            have BK929 := n2_
            have BK978 := n3_
            have BK986 := n4_
            have HB := n5_
            clear n0_ n1_ n2_ n3_ n4_ n5_
            refine start_ (n := 4) (S := fun w' => w'.cell? ⟨gb986, 0, none⟩ = some (.int .i64 t983) ∧ w'.cell? ⟨gb986, 1, none⟩ = some (.int .i64 t984)) (ds := []) #[false, false, false, false] (by kernel_rfl) rfl rfl ⟨(blk_cell BK986.out 0).trans rfl, (blk_cell BK986.out 1).trans rfl⟩ (fun hHeld => ?_)
            generalize w71.drew = w72 at HO_5 HO982 BK929 BK978 BK986 HB hHeld ⊢
            refine pure_ (i := 0) (N := some 76) (v := ?_) (a' := ?_) #[true, false, false, false] rfl rfl (by kernel_rfl) (fun _ _ _ h => h) (Or.inl ⟨by rfl, ?_⟩) ?_ ?_
            rotate_left
            ·intro w'
             go_simp
             with_reducible rfl
            rotate_left
            ·simp only [Act.put, List.setIfInBounds_toArray, List.set_cons_zero, List.set_cons_succ, i64_w, i32_w]
             rfl
            refine pure_ (i := 2) (N := some 5) (v := ?_) (a' := ?_) #[true, false, true, false] rfl rfl (by kernel_rfl) (fun _ _ _ h => h) (Or.inl ⟨by rfl, ?_⟩) ?_ ?_
            rotate_left
            ·intro w'
             go_simp
             with_reducible rfl
            rotate_left
            ·simp only [Act.put, List.setIfInBounds_toArray, List.set_cons_zero, List.set_cons_succ, i64_w, i32_w]
             rfl
            refine take_ (i := 1) (N := some 77) (v := ?_) (a' := ?_) #[true, true, true, false] rfl rfl (by kernel_rfl) (fun _ _ _ h => h) (Or.inl ⟨by rfl, ?_⟩) hHeld ?_ ?_
            rotate_left
            ·rintro w' ⟨s0, s1⟩
             go_simp
             with_reducible rfl
            rotate_left
            ·simp only [Act.put, List.setIfInBounds_toArray, List.set_cons_zero, List.set_cons_succ, i64_w, i32_w]
             rfl
            refine one_ (i := 3) (N := none) #[true, true, true, true] rfl rfl (by kernel_rfl) (by decide) (fun K hK => ?_)
            have hs73 : w72.cell? ⟨gb978, 0, none⟩ = some (.int .i64 x979000_2) := (blk_cell BK978.out 0).trans rfl
            have hfs73 := blk_frozen BK978.out 0
            have hns73_0 := NB929_978.out
            have hns73_2 := NB986_978.out
            have hms73_0 := NB978_929.out
            have hms73_2 := NB978_986.out
            have hs74 : w72.cell? ⟨gb978, 1, none⟩ = some (.int .i64 x979001_2) := (blk_cell BK978.out 1).trans rfl
            have hfs74 := blk_frozen BK978.out 1
            have hns74_0 := NB929_978.out
            have hns74_2 := NB986_978.out
            have hms74_0 := NB978_929.out
            have hms74_2 := NB978_986.out
            refine skip_ (w1 := ?_) (by rfl) rfl ?_ ?_
            rotate_left
            ·go_simp
             rfl
            refine hK.out _ _ ⟨((cell_far (p := ⟨gb978, _, none⟩) NB986_978.out _).trans (((cell_far (p := ⟨gb978, _, none⟩) NB986_978.out _).trans (hHeld.1)))), ((cell_far (p := ⟨gb978, _, none⟩) NB986_978.out _).trans (((cell_far (p := ⟨gb978, _, none⟩) NB986_978.out _).trans (hHeld.2))))⟩ (fun hHeld => ?_)
            clear hK K
            refine done_ (by kernel_rfl) ?_
            try go_wp2
            go_roundg k2
            case measure => have := HK1.out; have := HK2.out; omega
            case rel => exact ⟨(t980), (wrap64 (x12_2 + 1)), (t983), (t984), (by first | rfl | (simp; done) | (simp [*]; done)), H', ⟨by have := HK1.out; have := HK2.out; omega⟩, ⟨by (with_reducible repeat (first | apply Kd.S_alloc | apply Kd.S_drewN | apply Kd.S_drew)); exact Kd.S_mono (Kd.S_far (p := ⟨gb978, 1, none⟩) (Kd.S_far (p := ⟨gb978, 0, none⟩) (Kd.S_types HO982.out BK978.out (by decide)) (fun _ hk => hk.2) (.int .i64 t983)) (fun _ hk => hk.2) (.int .i64 t984)) (fun _ hk => trivial)⟩, ⟨by (with_reducible repeat (first | refine blk_drewN ?_ _ | refine blk_drew ?_ | refine blk_alloc ?_ _)); refine blk_far ?_ NB929_978.out _; (with_reducible repeat (first | refine blk_drewN ?_ _ | refine blk_drew ?_ | refine blk_alloc ?_ _)); refine blk_far ?_ NB929_978.out _; (with_reducible repeat (first | refine blk_drewN ?_ _ | refine blk_drew ?_ | refine blk_alloc ?_ _)); exact BK929.out⟩, ⟨by (with_reducible repeat (first | refine blk_drewN ?_ _ | refine blk_drew ?_ | refine blk_alloc ?_ _)); refine blk_put (cs := #[.int .i64 t983, .int .i64 x979001_2]) ?_ 1 _ rfl; (with_reducible repeat (first | refine blk_drewN ?_ _ | refine blk_drew ?_ | refine blk_alloc ?_ _)); refine blk_put (cs := #[.int .i64 x979000_2, .int .i64 x979001_2]) ?_ 0 _ rfl; (with_reducible repeat (first | refine blk_drewN ?_ _ | refine blk_drew ?_ | refine blk_alloc ?_ _)); exact BK978.out⟩, ⟨bs HB (by simp [ag, GE929.out, GE978.out, GE986.out])⟩⟩
           ·rw [if_neg c62] at H
            exact absurd H (by simp)
          ·rw [if_neg c61] at H
           exact absurd H (by simp)
         ·rw [if_neg c60] at H
          exact absurd H (by simp)
        ·rw [if_neg c58] at H
         have c58b0 : decide (x12_2 < ((rd_T42 x5_1 (ji50)).f1)) = false := decide_eq_false c58
         clear c58
         replace H := Option.bind_eq_some_iff.mp H
         obtain ⟨⟨t987, t990, t991, t992⟩, A750, H⟩ := H
         try dsimp -implicitDefEqProofs -simprocs only at H
         have A75 := Aside0.mk A750
         clear A750
         by_cases c76 : t992 = 0
         ·rw [if_pos c76] at H
          have c76b0 : (t992 == 0) = true := beq_iff_eq.mpr c76
          have c76b1 : (t992 != 0) = false := bne_eq_false_iff_eq.mpr c76
          clear c76
          by_cases c77 : t990 = (Int.tmod (wrap64 (ji50 + 1)) 3)
          ·rw [if_pos c77] at H
           have c77b0 : (t990 == (Int.tmod (wrap64 (ji50 + 1)) 3)) = true := beq_iff_eq.mpr c77
           have c77b1 : (t990 != (Int.tmod (wrap64 (ji50 + 1)) 3)) = false := bne_eq_false_iff_eq.mpr c77
           clear c77
           replace H := Option.bind_eq_some_iff.mp H
           obtain ⟨t994, A780, H⟩ := H
           try dsimp -implicitDefEqProofs -simprocs only at H
           have A78 := Aside0.mk A780
           clear A780
           by_cases c79 : t994 = true
           ·subst c79
            have H1 : (if 0 ≤ ji50 then (if ji50 < (x5_2.length : Int) then (if ((rd_T42 x5_2 ji50).f2) = 0 then (some true) else (none)) else (none)) else (none)) = some r := by rw [if_pos rfl] at H; exact H
            clear H
            have H := H1
            clear H1
            by_cases c80 : 0 ≤ ji50
            ·rw [if_pos c80] at H
             have c80b0 : decide (0 ≤ ji50) = true := decide_eq_true c80
             clear c80
             by_cases c81 : ji50 < (x5_2.length : Int)
             ·rw [if_pos c81] at H
              have c81b0 : decide (ji50 < (x5_2.length : Int)) = true := decide_eq_true c81
              clear c81
              by_cases c82 : ((rd_T42 x5_2 ji50).f2) = 0
              ·rw [if_pos c82] at H
               have c82b0 : (((rd_T42 x5_2 ji50).f2) == 0) = true := beq_iff_eq.mpr c82
               have c82b1 : (((rd_T42 x5_2 ji50).f2) != 0) = false := bne_eq_false_iff_eq.mpr c82
               clear c82
               obtain rfl := Option.some.inj H
               have hnb83 := NB978_929.out
               have hnc83 := NB929_978.out
               obtain ⟨hcz84_0, hcz84_1, hfz84_0, hfz84_1⟩ := cf2 BK978
               obtain ⟨Ao85, co85, eo85⟩ := Kd.S_slice HO_5.out
               subst eo85
               go_wp2_with (first | ((with_reducible refine gate_callee (f := 13) rfl ?_); refine goesL_ (some 81) rfl rfl Try.func13 (by kernel_rfl) rfl #[.slice Ao85 x5_2.length co85, .agg #[.int .i64 x979000_2, .int .i64 x979001_2]] rfl (by (try simp only [List.map_toArray, List.map_cons, List.map_nil]); first | done | rfl | (simp only [List.length_drop, List.length_take]; rfl)) ?_; (with_reducible refine (cyl_Take.calls _ _ x5_2 x979000_2 x979001_2 t987 t990 t991 t992 _ ?side1 ?side2 A75.out).mono ?_); (case side1 => repeat (first | exact (Kd.S_reads' HO_5.out).2.2 | (with_reducible refine Kd.C_alloc ?_ _) | (with_reducible refine Kd.C_drewN ?_ _) | (with_reducible refine Kd.C_drew ?_))); (case side2 => exact (Kd.S_reads' HO_5.out).2.1); rintro e w86 ⟨v988, rfl, ho0, hb⟩; refine ⟨_, rfl, ?_⟩; have hone_v988 := Kd.S_one ho0; have HO989 := Aside0.mk (Kd.S_lower (Kd.S_new' ho0 (Kd.S_lt (sk HO_5))) (below_size (bs HB (by simp [ag, GE929.out, GE978.out])))); replace HO_5 := Aside0.mk (Kd.S_elder' (sk HO_5) (Kd.S_base ho0) hb); replace BK929 := Aside0.mk (bb BK929 hb); replace BK978 := Aside0.mk (bb BK978 hb); replace HB := Aside0.mk (below_step (bs HB (by simp [ag, GE929.out, GE978.out])) hb); clear ho0 hb) | ((with_reducible refine gate_dst (N := 17) rfl ?_); refine box_event rfl (N := 17) rfl (cs := #[.int .i64 0, .int .i64 0]) (t := 24) (by first | (go_simp; done) | (go_simp; rfl)) ?_; intro gb993 hg w87 hbox hb; replace HO_5 := Aside0.mk (Kd.S_below (sk HO_5) hb); replace HO989 := Aside0.mk (Kd.S_below (sk HO989) hb); have BK993 := Aside0.mk (hbox); have GW993 := gl HB hg (by simp [ag, GE929.out, GE978.out]); have GE993 := gl HB hg (by simp [ag, GE929.out, GE978.out]); replace HB := Aside0.mk (below_step (bs HB (by simp [ag, GE929.out, GE978.out])) hb); have NB929_993 := nl BK929 hg; have NB993_929 := nt BK929 hg; replace BK929 := Aside0.mk (bb BK929 hb); have NB978_993 := nl BK978 hg; have NB993_978 := nt BK978 hg; replace BK978 := Aside0.mk (bb BK978 hb); clear hb hbox hg; have hnb88 := NB993_929.out; have hnc88 := NB929_993.out; have hnb89 := NB993_978.out; have hnc89 := NB978_993.out; obtain ⟨hcz90_0, hcz90_1, hfz90_0, hfz90_1⟩ := cf2 BK993; obtain ⟨Ao91, co91, eo91⟩ := Kd.S_slice HO989.out; subst eo91) | (go_at_call 19; (with_reducible refine (cyl_Whole.calls k2 _ _ t987 true _ ?side1 ?side2 A78.out).mono ?_); (case side1 => refine (Kd.S_reads' (e := 42) (base := w.heap.size) (ok := fun k_ => (True ∧ some k_ ≠ (.slice Ao85 x5_2.length co85 : Value).ownBlock)) (n := t987.length) (c := co91) ?_).2.2; exact (by (with_reducible repeat (first | apply Kd.S_alloc | apply Kd.S_drewN | apply Kd.S_drew)); exact (Kd.S_mono (Kd.S_far (p := ⟨gb993, 1, none⟩) (Kd.S_far (p := ⟨gb993, 0, none⟩) (Kd.S_types HO989.out BK993.out (by decide)) (fun _ hk => hk.2) (.int .i64 t990)) (fun _ hk => hk.2) (.int .i64 t991)) (fun _ h_ => h_.1)))); (case side2 => exact (Kd.S_reads' HO989.out).2.1); rintro e w92 ⟨rfl, hb⟩; replace HO_5 := Aside0.mk (Kd.S_below (by (with_reducible repeat (first | apply Kd.S_alloc | apply Kd.S_drewN | apply Kd.S_drew)); exact (Kd.S_mono (Kd.S_far (p := ⟨gb993, 1, none⟩) (Kd.S_far (p := ⟨gb993, 0, none⟩) (Kd.S_types HO_5.out BK993.out (by decide)) (fun _ hk => hk.2) (.int .i64 t990)) (fun _ hk => hk.2) (.int .i64 t991)) (fun _ h_ => h_.1))) hb); replace HO989 := Aside0.mk (Kd.S_below (by (with_reducible repeat (first | apply Kd.S_alloc | apply Kd.S_drewN | apply Kd.S_drew)); exact (Kd.S_mono (Kd.S_far (p := ⟨gb993, 1, none⟩) (Kd.S_far (p := ⟨gb993, 0, none⟩) (Kd.S_types HO989.out BK993.out (by decide)) (fun _ hk => hk.2) (.int .i64 t990)) (fun _ hk => hk.2) (.int .i64 t991)) (fun _ h_ => h_.1))) hb); replace BK929 := Aside0.mk (blk_below (g := gb929) (o := .cells #[.int .u8 a0_0, .int .u8 a0_1, .int .u8 a0_2] 65 (0, 0)) (by (with_reducible repeat (first | refine blk_drewN ?_ _ | refine blk_drew ?_ | refine blk_alloc ?_ _)); refine blk_far ?_ NB929_993.out _; (with_reducible repeat (first | refine blk_drewN ?_ _ | refine blk_drew ?_ | refine blk_alloc ?_ _)); refine blk_far ?_ NB929_993.out _; (with_reducible repeat (first | refine blk_drewN ?_ _ | refine blk_drew ?_ | refine blk_alloc ?_ _)); exact BK929.out) hb); replace BK978 := Aside0.mk (blk_below (g := gb978) (o := .cells #[.int .i64 x979000_2, .int .i64 x979001_2] 24 (0, 0)) (by (with_reducible repeat (first | refine blk_drewN ?_ _ | refine blk_drew ?_ | refine blk_alloc ?_ _)); refine blk_far ?_ NB978_993.out _; (with_reducible repeat (first | refine blk_drewN ?_ _ | refine blk_drew ?_ | refine blk_alloc ?_ _)); refine blk_far ?_ NB978_993.out _; (with_reducible repeat (first | refine blk_drewN ?_ _ | refine blk_drew ?_ | refine blk_alloc ?_ _)); exact BK978.out) hb); replace BK993 := Aside0.mk (blk_below (g := gb993) (o := .cells #[.int .i64 t990, .int .i64 t991] 24 (0, 0)) (by (with_reducible repeat (first | refine blk_drewN ?_ _ | refine blk_drew ?_ | refine blk_alloc ?_ _)); refine blk_put (cs := #[.int .i64 t990, .int .i64 0]) ?_ 1 _ rfl; (with_reducible repeat (first | refine blk_drewN ?_ _ | refine blk_drew ?_ | refine blk_alloc ?_ _)); refine blk_put (cs := #[.int .i64 0, .int .i64 0]) ?_ 0 _ rfl; (with_reducible repeat (first | refine blk_drewN ?_ _ | refine blk_drew ?_ | refine blk_alloc ?_ _)); exact BK993.out) hb); replace HB := Aside0.mk (below_step (bs HB (by simp [ag, GE929.out, GE978.out, GE993.out])) hb); (try clear hb); (try clear hb2); (try clear hk); (try clear hi); have p995 : 0 ≤ (ji50 : Int) := of_decide_eq_true (by assumption); have q995 : ji50 < (x5_2.length : Int) := of_decide_eq_true (by assumption); obtain ⟨ad995, A995_5, c995_5, A995_6, c995_6, e995, hx995_0, hx995_1, hx995_2, hx995_3, hx995_4, hx995_5, hx995_6, hl995_5, hi995_5, hl995_6, hi995_6⟩ := at_T42 (Kd.S_reads' HO_5.out).2.2 ji50 p995 q995; cases e995; obtain ⟨ce995, hce995, hMe995, hcc995⟩ := Kd.S_get HO_5.out z42 ji50 p995 (by first | exact q995 | exact of_decide_eq_true (by assumption) | (have e_ := (Kd.S_reads' HO_5.out).1; omega)); obtain ⟨ve995_5, ve995_6, rfl, ge995_5, ge995_6⟩ := k42_openM hMe995; have hv995_5 := hcc995 5 _ rfl; rw [add_field _ _ 5 (by omega)] at hv995_5; replace hv995_5 := Option.some.inj (hv995_5.symm.trans hx995_5); rw [hv995_5] at ge995_5; have HL995_5 := Aside0.mk (show Kd.R (Kd.int .i64) 3 _ _ _ _ ((rd_T42 x5_2 ji50).f5) from ge995_5); clear hv995_5 ge995_5; have hv995_6 := hcc995 6 _ rfl; rw [add_field _ _ 6 (by omega)] at hv995_6; replace hv995_6 := Option.some.inj (hv995_6.symm.trans hx995_6); rw [hv995_6] at ge995_6; have HL995_6 := Aside0.mk (show Kd.R (Kd.int .i64) 3 _ _ _ _ ((rd_T42 x5_2 ji50).f6) from ge995_6); clear hv995_6 ge995_6; clear hcc995 hce995; have HR995_5 := Aside0.mk hi995_5; have HC995_5 := Aside0.mk hl995_5; clear hi995_5 hl995_5; have HR995_6 := Aside0.mk hi995_6; have HC995_6 := Aside0.mk hl995_6; clear hi995_6 hl995_6; replace p995 := eq_true p995; replace q995 := eq_true q995))
               go_ret
               exact ⟨by first | rfl | (simp [errW_none, errW_some] <;> rfl) | (simp only [← hji50]; first | rfl | (simp [errW_none, errW_some] <;> rfl)) | (simp [*, errW_none, errW_some] <;> rfl), bs HB (by simp [ag, GE929.out, GE978.out, GE993.out])⟩
              ·rw [if_neg c82] at H
               exact absurd H (by simp)
             ·rw [if_neg c81] at H
              exact absurd H (by simp)
            ·rw [if_neg c80] at H
             exact absurd H (by simp)
           ·replace c79 := Bool.eq_false_iff.mpr c79
            subst c79
            have H1 : (none) = some r := by rw [if_neg (show ¬ (false = true) by decide)] at H; exact H
            clear H
            have H := H1
            clear H1
            exact absurd H (by simp)
          ·rw [if_neg c77] at H
           exact absurd H (by simp)
         ·rw [if_neg c76] at H
          exact absurd H (by simp)
     ·rw [if_neg c52] at H
      exact absurd H (by simp)
    ·rw [if_neg c51] at H
     exact absurd H (by simp)


end Go.Proofs.Ytehjmmedghcndaa.PG
