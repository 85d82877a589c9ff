import Derived.Test.YtehjmmedghcndaaPGx0
import Derived.Test.YtehjmmedghcndaaG3
import Derived.Test.YtehjmmedghcndaaCI
import Derived.Test.YtehjmmedghcndaaLT
namespace Go.Proofs.Ytehjmmedghcndaa.PG
open Go.RowKit Go.Proofs.YtehjmmedghcndaaW.PrintWords Go.Proofs.YtehjmmedghcndaaW.PrintLast Go.Proofs.YtehjmmedghcndaaW.PrintMore
attribute [local go_sem] max2_int min2_int max_two min_two max_three min_three max_four min_four run_store_one   -- for this text's walks alone
set_option linter.unusedVariables false
set_option linter.unusedSimpArgs false
/-! ### selvedgelaw18_made: function 21 -/
mutual
def selvedgelaw18_made.j1 : Nat → List Int → List (S42) → Option ((List (S42)))
 | 0, _, _ => none
 | k + 1, x1, x5 => selvedgelaw18_made.l1 k x1 x5 0
def selvedgelaw18_made.l1 : Nat → List Int → List (S42) → Int → Option ((List (S42)))
 | 0, _, _, _ => none
 | k + 1, x1, x5, x9 => if x9 < (x1.length : Int) then (if x9 < 60 then (selvedgelaw18_made.j3 k x1 x5 x9 (decide ((x5.length : Int) > 0))) else (selvedgelaw18_made.j3 k x1 x5 x9 false)) else (selvedgelaw18_made.j3 k x1 x5 x9 false)
def selvedgelaw18_made.j3 : Nat → List Int → List (S42) → Int → Bool → Option ((List (S42)))
 | 0, _, _, _, _ => none
 | k + 1, x1, x5, x9, x52 => if x52 = true then (if 0 ≤ x9 then (if x9 < (x1.length : Int) then (if (x5.length : Int) = 0 then (none) else (if 0 ≤ (Int.tmod (wrap64 (rd x1 x9)) (x5.length : Int)) then (if (Int.tmod (wrap64 (rd x1 x9)) (x5.length : Int)) < (x5.length : Int) then (if ((rd_T42 x5 (Int.tmod (wrap64 (rd x1 x9)) (x5.length : Int))).f1) = 0 then (none) else ((selvedgeref18_Take.f x5 (Int.tmod (wrap64 (rd x1 x9)) (x5.length : Int)) (Int.tmod (wrap64 (rd x1 x9)) ((rd_T42 x5 (Int.tmod (wrap64 (rd x1 x9)) (x5.length : Int))).f1))).bind fun bt345 => (if bt345.2.2.2 = 0 then (selvedgelaw18_made.l1 k x1 bt345.1 (wrap64 (x9 + 1))) else (selvedgelaw18_made.l1 k x1 x5 (wrap64 (x9 + 1)))))) else (none)) else (none))) else (none)) else (none)) else (some x5)
def selvedgelaw18_made.l0 : Nat → List Int → List Int → List (S42) → Int → Option ((List (S42)))
 | 0, _, _, _, _ => none
 | k + 1, x0, x1, x5, x6 => if x6 < (x0.length : Int) then (if x6 < 16 then (if 0 ≤ x6 then ((selvedgeref18_New.f k x6 (wrap64 ((Int.tmod (wrap64 (rd x0 x6)) 64) + 1))).bind fun bt326 => (if x5.length < 1599289640401 then (selvedgelaw18_made.l0 k x0 x1 (x5 ++ [(⟨bt326.1, bt326.2.1, bt326.2.2.1, bt326.2.2.2.1, bt326.2.2.2.2.1, bt326.2.2.2.2.2.1, bt326.2.2.2.2.2.2.1⟩ : S42)]) (wrap64 (x6 + 1))) else (none))) else (none)) else (selvedgelaw18_made.j1 k x1 x5)) else (selvedgelaw18_made.j1 k x1 x5)
end
def selvedgelaw18_made.f (k : Nat) (l0 : List Int) (l1 : List Int) : Option ((List (S42))) := selvedgelaw18_made.l0 k l0 l1 ([] : List (S42)) 0
def selvedgelaw18_made.T11 : Bool × List (List Nat × List Nat) := (true, [([], []), ([], []), ([], []), ([], []), ([2, 3], [2, 3]), ([4], [4]), ([5], [5]), ([], []), ([], []), ([7, 8], [7, 8]), ([9], [9]), ([10], [10]), ([6, 11], [6, 11]), ([1, 12], [1, 12]), ([0, 13], [0, 13]), ([14], [14]), ([15], [15]), ([15], [15]), ([15], [15]), ([], []), ([16, 14, 0, 1, 2, 3, 4, 5, 6, 7, 8, 9, 10, 11, 12, 13, 14, 15, 16, 19], [16]), ([19, 17, 20, 0, 1, 2, 3, 4, 5, 6, 7, 8, 9, 10, 11, 12, 13, 14, 15, 16, 17, 19, 20], [17, 19]), ([18, 21, 0, 1, 2, 3, 4, 5, 6, 7, 8, 9, 10, 11, 12, 13, 14, 15, 16, 17, 18, 19, 20, 21], [18])])
def selvedgelaw18_made.B11 : List Nat := [0, 0, 0, 0, 12, 28, 60, 0, 0, 384, 896, 1920, 4092, 8190, 16383, 32767, 65535, 65535, 65535, 0, 655359, 1835007, 4194303]
theorem selvedgelaw18_made.tab11 : rtab .any (opsOf Try.f21 11) = selvedgelaw18_made.T11 := by kernel_rfl
theorem selvedgelaw18_made.bits11 : waitsOk selvedgelaw18_made.T11.2 selvedgelaw18_made.B11 = true := by kernel_rfl
set_option maxHeartbeats 8000000 in
set_option maxRecDepth 100000 in
theorem selvedgelaw18_made.calls (k : Nat) (A0 : Option Addr) (c0 : Nat) (l0 : List Int) (A1 : Option Addr) (c1 : Nat) (l1 : List Int) (r : List (S42)) (w : World) (hr0 : Kd.C (Kd.int .u8) w A0 l0.length l0) (hc0 : l0.length ≤ c0) (hr1 : Kd.C (Kd.int .u8) w A1 l1.length l1) (hc1 : l1.length ≤ c1) (h : selvedgelaw18_made.f k l0 l1 = some r) :
  Calls Try.prog 21 #[.slice A0 l0.length c0, .slice A1 l1.length c1] w fun e w' => ∃ v0_ : Value, e = .returned (v0_) ∧ Kd.S k42 42 w' w.heap.size (fun _ => True) v0_ r ∧ Below w.heap.size w w' := by
 have hu42 := Try.underlying42
 have hu24 := Try.underlying24
 have HR0 := Aside0.mk hr0
 have HC0 := Aside0.mk hc0
 clear hr0 hc0
 have HR1 := Aside0.mk hr1
 have HC1 := Aside0.mk hc1
 clear hr1 hc1
 have HB := Aside0.mk (Below.refl w.heap.size w)
 have H : (selvedgelaw18_made.l0 k l0 l1 ([] : List (S42)) 0) = some r := h
 clear h
 have HC3 := Aside0.mk H
 clear H
 go_enter Try.func21, Try.ntmps21
 go_upto_block 0 with (fail)
 go_cut [5] (fun v5 wc => ∃ (kq : Nat) (x5_2 : List (S42)), Aside0 (selvedgelaw18_made.j1 kq l1 x5_2 = some r) ∧ Aside0 (kq ≤ k) ∧ Aside0 (Kd.S k42 42 wc w.heap.size (fun _ => True) v5 x5_2) ∧ Aside0 (Below w.heap.size w wc))
 case first =>
  have H := HC3.out
  clear HC3
  have H' := Aside0.mk H
  clear H
  go_wp2
  go_loopg [5, 6] k (fun kq v5 v6 w' => ∃ (x5_1 : List (S42)) (x6_1 : Int), v6 = .int .i64 x6_1 ∧ Aside0 (selvedgelaw18_made.l0 kq l0 l1 x5_1 x6_1 = some r) ∧ Aside0 (kq ≤ k) ∧ Aside0 (Kd.S k42 42 w' w.heap.size (fun _ => True) v5 x5_1) ∧ Aside0 (Below w.heap.size w w'))
  case atStart => exact ⟨(([] : List (S42))), (0), (by first | rfl | (simp; done) | (simp [*]; done)), H', ⟨Nat.le_refl _⟩, ⟨by first | exact Kd.S_nil _ _ _ _ _ | exact Kd.N_nil _ _ _ _ _ | exact Kd.V_nil _ _ _ _ _ | exact Kd.Q_nil _ _ _ _ _ | exact Kd.R_nil _ _ _ _ _⟩, ⟨bl HB⟩⟩
  case round =>
   clear H'
   try clear c1
   try clear c2
   try clear p2
   obtain ⟨x5_1, x6_1, rfl, HA, HK1, HO_5, HB⟩ := hrel
   cases gk with
   | zero => exact absurd HA.out (by simp [selvedgelaw18_made.l0])
   | succ k1 =>
    have H := HA.out
    clear HA
    simp only [selvedgelaw18_made.l0] at H
    by_cases c4 : x6_1 < (l0.length : Int)
    ·rw [if_pos c4] at H
     have c4b0 : decide (x6_1 < (l0.length : Int)) = true := decide_eq_true c4
     clear c4
     (first | rw [c4b0] | (simp only [i64_w, i32_w]; rw [c4b0]) | skip)
     by_cases c5 : x6_1 < 16
     ·rw [if_pos c5] at H
      have c5b0 : decide (x6_1 < 16) = true := decide_eq_true c5
      clear c5
      by_cases c6 : 0 ≤ x6_1
      ·rw [if_pos c6] at H
       have c6b0 : decide (0 ≤ x6_1) = true := decide_eq_true c6
       clear c6
       replace H := Option.bind_eq_some_iff.mp H
       obtain ⟨⟨t326, t327, t328, t329, t330, t331, t334, t337⟩, A70, H⟩ := H
       try dsimp -implicitDefEqProofs -simprocs only at H
       have A7 := Aside0.mk A70
       clear A70
       by_cases c8 : x5_1.length < 1599289640401
       ·rw [if_pos c8] at H
        have LMc8 := Aside0.mk c8
        clear c8
        obtain ⟨y339, hy339⟩ : ∃ y_ : List (S42), y_ = (x5_1 ++ [(⟨t326, t327, t328, t329, t330, t331, t334⟩ : S42)]) := ⟨_, rfl⟩
        replace H : (selvedgelaw18_made.l0 k1 l0 l1 y339 (wrap64 (x6_1 + 1))) = some r := by first | (rw [hy339]; with_reducible exact H) | (have H2_ := (Option.bind_some _ _).symm.trans H; rw [hy339]; with_reducible exact H2_) | (have H2_ := (Option.bind_some _ _).symm.trans H; with_reducible exact H2_) | with_reducible exact H | (rw [hy339]; exact H) | exact H
        have Ny339 := Aside0.mk hy339
        clear hy339
        have H' := Aside0.mk H
        clear H
        have p325 : 0 ≤ (x6_1 : Int) := of_decide_eq_true (by assumption)
        have q325 : x6_1 < (l0.length : Int) := of_decide_eq_true (by assumption)
        obtain ⟨ad325, e325, hx325_0⟩ := Kd.at_int HR0.out x6_1 p325 q325
        cases e325
        replace hx325_0 := pw_cell_below HB.out hx325_0
        replace p325 := eq_true p325
        replace q325 := eq_true q325
        go_wp2_with (first | ((with_reducible refine gate_callee (f := 37) rfl ?_); refine goesL_ (some 33) rfl rfl Try.func37 (by kernel_rfl) rfl #[.int .i64 x6_1, .int .i64 (wrap64 ((Int.tmod (wrap64 (rd l0 x6_1)) 64) + 1))] rfl (by simp only [List.map_toArray, List.map_cons, List.map_nil]; first | done | rfl) ?_; (with_reducible refine (selvedgeref18_New.calls k1 x6_1 (wrap64 ((Int.tmod (wrap64 (rd l0 x6_1)) 64) + 1)) t326 t327 t328 t329 t330 t331 t334 t337 _ A7.out).mono ?_); rintro e w9 ⟨v332, v335, rfl, ho0, ho1, hb⟩; refine ⟨_, rfl, ?_⟩; have hone_v332 := Kd.R_one ho0; have hone_v335 := Kd.R_one ho1; replace HO_5 := Aside0.mk (Kd.S_mono (Kd.S_told (Kd.S_told (Kd.S_old (sk HO_5) hb) (Kd.R_base ho0)) (Kd.R_base ho1)) (fun _ h_ => h_.1)); have HO333 := Aside0.mk (Kd.R_lower ho0 (below_size (bl HB))); have HO336 := Aside0.mk (Kd.R_lower ho1 (below_size (bl HB))); replace HB := Aside0.mk (below_step (bl HB) hb); clear ho0 hb; (try clear ho1)) | ((with_reducible refine gate_dst (N := 7) rfl ?_); (try (refine gate_guard (by rfl) ?_; dsimp only)); refine box_event rfl (N := 7) rfl (cs := #[.int .i64 0, .int .i64 0, .int .i64 0, .int .i64 0, .int .i64 0, .slice none 0 0, .slice none 0 0]) (t := 42) (by first | (go_simp; done) | (go_simp; rfl)) ?_; intro gb338 hg w10 hbox hb; replace HO_5 := Aside0.mk (Kd.S_below (Kd.S_elderB (sk HO_5) gb338 (Nat.le_of_eq hg.symm)) hb); replace HO333 := Aside0.mk (Kd.R_below (rk HO333) hb); replace HO336 := Aside0.mk (Kd.R_below (rk HO336) hb); have BK338 := Aside0.mk (hbox); have GW338 := gs HB hg; have GE338 := gs HB hg; replace HB := Aside0.mk (below_step (bl HB) hb); clear hb hbox hg; obtain ⟨hcz11_0, hcz11_1, hcz11_2, hcz11_3, hcz11_4, hcz11_5, hcz11_6, hfz11_0, hfz11_1, hfz11_2, hfz11_3, hfz11_4, hfz11_5, hfz11_6⟩ := cf7 BK338; obtain ⟨Ao12, co12, eo12⟩ := Kd.R_slice HO333.out; subst eo12; obtain ⟨Ao13, co13, eo13⟩ := Kd.R_slice HO336.out; subst eo13) | ((with_reducible refine gate_store (t := 42) (p := 7) rfl ?_); refine store_event (t := 42) (p := 7) (v := ?vo_w14) (w1 := (((((((w10.setCell ⟨gb338, 0, none⟩ (.int .i64 t326)).setCell ⟨gb338, 1, none⟩ (.int .i64 t327)).setCell ⟨gb338, 2, none⟩ (.int .i64 t328)).setCell ⟨gb338, 3, none⟩ (.int .i64 t329)).setCell ⟨gb338, 4, none⟩ (.int .i64 t330)).setCell ⟨gb338, 5, none⟩ (.slice Ao12 t331.length co12)).setCell ⟨gb338, 6, none⟩ (.slice Ao13 t334.length co13))) ?hg ?ho ?hn ?hr ?_; (case ho => rfl); (case hg => rfl); (case hn => rfl); (case hr => first | (go_simp; done) | (go_simp; rfl)); intro w14 hw; have n0_ : Aside0 (Kd.S k42 42 w14 w.heap.size (fun k_ => some k_ ≠ (.slice Ao12 t331.length co12 : Value).ownBlock ∧ some k_ ≠ (.slice Ao13 t334.length co13 : Value).ownBlock ∧ k_ ≠ gb338) u5 x5_1) := ⟨(by rw [hw]; exact (by (with_reducible repeat (first | apply Kd.S_alloc | apply Kd.S_drewN | apply Kd.S_drew)); exact Kd.S_mono (Kd.S_far (p := ⟨gb338, 6, none⟩) (Kd.S_far (p := ⟨gb338, 5, none⟩) (Kd.S_far (p := ⟨gb338, 4, none⟩) (Kd.S_far (p := ⟨gb338, 3, none⟩) (Kd.S_far (p := ⟨gb338, 2, none⟩) (Kd.S_far (p := ⟨gb338, 1, none⟩) (Kd.S_far (p := ⟨gb338, 0, none⟩) (Kd.S_mono HO_5.out (fun k_ hk => (⟨hk, hk.2⟩ : _ ∧ k_ ≠ gb338))) (fun _ hk => hk.2) (.int .i64 t326)) (fun _ hk => hk.2) (.int .i64 t327)) (fun _ hk => hk.2) (.int .i64 t328)) (fun _ hk => hk.2) (.int .i64 t329)) (fun _ hk => hk.2) (.int .i64 t330)) (fun _ hk => hk.2) (.slice Ao12 t331.length co12)) (fun _ hk => hk.2) (.slice Ao13 t334.length co13)) (fun _ hk => ⟨hk.1.1.1.2, ⟨hk.1.1.2, hk.1.2⟩⟩)))⟩; have n1_ : Aside0 (Kd.R (Kd.int .i64) 3 w14 w.heap.size (fun k_ => some k_ ≠ (.slice Ao13 t334.length co13 : Value).ownBlock) (.slice Ao12 t331.length co12) t331) := ⟨(by rw [hw]; exact (by (with_reducible repeat (first | apply Kd.R_alloc | apply Kd.R_drewN | apply Kd.R_drew)); exact Kd.R_mono (Kd.R_far (p := ⟨gb338, 6, none⟩) (Kd.R_far (p := ⟨gb338, 5, none⟩) (Kd.R_far (p := ⟨gb338, 4, none⟩) (Kd.R_far (p := ⟨gb338, 3, none⟩) (Kd.R_far (p := ⟨gb338, 2, none⟩) (Kd.R_far (p := ⟨gb338, 1, none⟩) (Kd.R_far (p := ⟨gb338, 0, none⟩) (Kd.R_types HO333.out BK338.out (by decide)) (fun _ hk => hk.2) (.int .i64 t326)) (fun _ hk => hk.2) (.int .i64 t327)) (fun _ hk => hk.2) (.int .i64 t328)) (fun _ hk => hk.2) (.int .i64 t329)) (fun _ hk => hk.2) (.int .i64 t330)) (fun _ hk => hk.2) (.slice Ao12 t331.length co12)) (fun _ hk => hk.2) (.slice Ao13 t334.length co13)) (fun _ hk => hk.1)))⟩; have n2_ : Aside0 (Kd.R (Kd.int .i64) 3 w14 w.heap.size (fun k_ => some k_ ≠ (.slice Ao12 t331.length co12 : Value).ownBlock) (.slice Ao13 t334.length co13) t334) := ⟨(by rw [hw]; exact (by (with_reducible repeat (first | apply Kd.R_alloc | apply Kd.R_drewN | apply Kd.R_drew)); exact Kd.R_mono (Kd.R_far (p := ⟨gb338, 6, none⟩) (Kd.R_far (p := ⟨gb338, 5, none⟩) (Kd.R_far (p := ⟨gb338, 4, none⟩) (Kd.R_far (p := ⟨gb338, 3, none⟩) (Kd.R_far (p := ⟨gb338, 2, none⟩) (Kd.R_far (p := ⟨gb338, 1, none⟩) (Kd.R_far (p := ⟨gb338, 0, none⟩) (Kd.R_types HO336.out BK338.out (by decide)) (fun _ hk => hk.2) (.int .i64 t326)) (fun _ hk => hk.2) (.int .i64 t327)) (fun _ hk => hk.2) (.int .i64 t328)) (fun _ hk => hk.2) (.int .i64 t329)) (fun _ hk => hk.2) (.int .i64 t330)) (fun _ hk => hk.2) (.slice Ao12 t331.length co12)) (fun _ hk => hk.2) (.slice Ao13 t334.length co13)) (fun _ hk => hk.1)))⟩; have n3_ : Aside0 (w14.heap[gb338]? = some (.cells #[.int .i64 t326, .int .i64 t327, .int .i64 t328, .int .i64 t329, .int .i64 t330, .slice Ao12 t331.length co12, .slice Ao13 t334.length co13] 42 (0, 0))) := ⟨(by rw [hw]; exact (by (with_reducible repeat (first | refine blk_drewN ?_ _ | refine blk_drew ?_ | refine blk_alloc ?_ _)); refine blk_put (cs := #[.int .i64 t326, .int .i64 t327, .int .i64 t328, .int .i64 t329, .int .i64 t330, .slice Ao12 t331.length co12, .slice none 0 0]) ?_ 6 _ rfl; (with_reducible repeat (first | refine blk_drewN ?_ _ | refine blk_drew ?_ | refine blk_alloc ?_ _)); refine blk_put (cs := #[.int .i64 t326, .int .i64 t327, .int .i64 t328, .int .i64 t329, .int .i64 t330, .slice none 0 0, .slice none 0 0]) ?_ 5 _ rfl; (with_reducible repeat (first | refine blk_drewN ?_ _ | refine blk_drew ?_ | refine blk_alloc ?_ _)); refine blk_put (cs := #[.int .i64 t326, .int .i64 t327, .int .i64 t328, .int .i64 t329, .int .i64 0, .slice none 0 0, .slice none 0 0]) ?_ 4 _ rfl; (with_reducible repeat (first | refine blk_drewN ?_ _ | refine blk_drew ?_ | refine blk_alloc ?_ _)); refine blk_put (cs := #[.int .i64 t326, .int .i64 t327, .int .i64 t328, .int .i64 0, .int .i64 0, .slice none 0 0, .slice none 0 0]) ?_ 3 _ rfl; (with_reducible repeat (first | refine blk_drewN ?_ _ | refine blk_drew ?_ | refine blk_alloc ?_ _)); refine blk_put (cs := #[.int .i64 t326, .int .i64 t327, .int .i64 0, .int .i64 0, .int .i64 0, .slice none 0 0, .slice none 0 0]) ?_ 2 _ rfl; (with_reducible repeat (first | refine blk_drewN ?_ _ | refine blk_drew ?_ | refine blk_alloc ?_ _)); refine blk_put (cs := #[.int .i64 t326, .int .i64 0, .int .i64 0, .int .i64 0, .int .i64 0, .slice none 0 0, .slice none 0 0]) ?_ 1 _ rfl; (with_reducible repeat (first | refine blk_drewN ?_ _ | refine blk_drew ?_ | refine blk_alloc ?_ _)); refine blk_put (cs := #[.int .i64 0, .int .i64 0, .int .i64 0, .int .i64 0, .int .i64 0, .slice none 0 0, .slice none 0 0]) ?_ 0 _ rfl; (with_reducible repeat (first | refine blk_drewN ?_ _ | refine blk_drew ?_ | refine blk_alloc ?_ _)); exact BK338.out))⟩; have n4_ : Aside0 (Below w.heap.size w w14) := ⟨(by rw [hw]; exact (bs HB (by simp [ag, GE338.out])))⟩; clear hw; clear HO_5; clear HO333; clear HO336; clear BK338; clear HB; have HO_5 := n0_; have HO333 := n1_; have HO336 := n2_; have BK338 := n3_; have HB := n4_; clear n0_ n1_ n2_ n3_ n4_; obtain ⟨hcz15_0, hcz15_1, hcz15_2, hcz15_3, hcz15_4, hcz15_5, hcz15_6, hfz15_0, hfz15_1, hfz15_2, hfz15_3, hfz15_4, hfz15_5, hfz15_6⟩ := cf7 BK338) | ((with_reducible refine gate_builtin (b := .append) (xs := #[.tmp 36, .tmp 38]) rfl ?_); (try (refine gate_guard (by rfl) ?_; dsimp only)); at_builtin; refine Kd.S_append k42 (w0 := w) w.heap.size rfl (.tmp 36) (.tmp 38) 22 42 (.agg #[(.int .i64 0), (.int .i64 0), (.int .i64 0), (.int .i64 0), (.int .i64 0), (.slice none 0 0), (.slice none 0 0)]) 88 rfl Try.underlying22 info42 rfl (by decide) (by omega) u5 x5_1 (⟨t326, t327, t328, t329, t330, t331, t334⟩ : S42) [.int .i64 t326, .int .i64 t327, .int .i64 t328, .int .i64 t329, .int .i64 t330, .slice Ao12 t331.length co12, .slice Ao13 t334.length co13] (fun k_ => k_ ≠ gb338) (fun k_ => some k_ = (.slice Ao12 t331.length co12 : Value).ownBlock ∨ some k_ = (.slice Ao13 t334.length co13 : Value).ownBlock) rfl rfl ?aP (fun k_ hk_ => hk_.elim (fun h_ => ((Kd.R_mono (ok' := fun k_ => ((fun k_ => k_ ≠ gb338)) k_ ∧ some k_ ≠ (u5 : Value).ownBlock) (Kd.R_types (Kd.R_apart' (HO333.out) (Kd.S_typed HO_5.out) (by decide)) BK338.out (by decide)) (fun k_ hk => ⟨hk.2, hk.1.2⟩))).1 k_ h_.symm) (fun h_ => ((Kd.R_mono (ok' := fun k_ => ((fun k_ => k_ ≠ gb338)) k_ ∧ some k_ ≠ (u5 : Value).ownBlock) (Kd.R_types (Kd.R_apart' (HO336.out) (Kd.S_typed HO_5.out) (by decide)) BK338.out (by decide)) (fun k_ hk => ⟨hk.2, hk.1.2⟩))).1 k_ h_.symm)) ?aF ?aO ?aB ?aS ?aL ?_; (case aP => exact k42_mkM _ _ _ (⟨t326, t327, t328, t329, t330, t331, t334⟩ : S42) (Kd.R_mono (Kd.R_tight rfl (Kd.R_mono (ok' := fun k_ => ((fun k_ => k_ ≠ gb338)) k_ ∧ some k_ ≠ (u5 : Value).ownBlock) (Kd.R_types (Kd.R_apart' (HO333.out) (Kd.S_typed HO_5.out) (by decide)) BK338.out (by decide)) (fun k_ hk => ⟨hk.2, hk.1.2⟩))) (fun _ h_ => Or.inl h_)) (Kd.R_mono (Kd.R_tight rfl (Kd.R_mono (ok' := fun k_ => ((fun k_ => k_ ≠ gb338)) k_ ∧ some k_ ≠ (u5 : Value).ownBlock) (Kd.R_types (Kd.R_apart' (HO336.out) (Kd.S_typed HO_5.out) (by decide)) BK338.out (by decide)) (fun k_ hk => ⟨hk.2, hk.1.2⟩))) (fun _ h_ => Or.inr (h_)))); (case aB => exact (bs HB (by simp [ag, GE338.out]))); (case aF => exact (fun k_ hk => Kd.freshB (g := gb338) (o := .cells #[.int .i64 t326, .int .i64 t327, .int .i64 t328, .int .i64 t329, .int .i64 t330, .slice Ao12 t331.length co12, .slice Ao13 t334.length co13] 42 (0, 0)) (bk BK338) k_ hk)); (case aO => exact (Kd.S_mono (sk HO_5) (fun k_ hk => ⟨hk.2.2, fun e_ => e_.elim (fun h_ => hk.1 h_) (fun h_ => hk.2.1 h_)⟩))); (case aS => exact (below_size (bs HB (by simp [ag, GE338.out])))); (case aL => have := LMc8.out; omega); intro v340 w16 ho hb hg hat; rw [← Ny339.out] at ho; replace BK338 := Aside0.mk (blk_grown (g := gb338) (o := .cells #[.int .i64 t326, .int .i64 t327, .int .i64 t328, .int .i64 t329, .int .i64 t330, .slice Ao12 t331.length co12, .slice Ao13 t334.length co13] 42 (0, 0)) (bk BK338) hg (Kd.S_away HO_5.out (fun _ hk => hk.2.2))); replace HB := Aside0.mk (hb); have HO341 := Aside0.mk (ho); clear HO_5 HO333 HO336; clear ho hb hg hat))
        go_roundg k1
        case measure => have := HK1.out; omega
        case rel => exact ⟨(y339), (wrap64 (x6_1 + 1)), (by first | rfl | (simp; done) | (simp [*]; done)), H', ⟨by have := HK1.out; omega⟩, ⟨Kd.S_mono (sk HO341) (fun _ hk => trivial)⟩, ⟨bs HB (by simp [ag, GE338.out])⟩⟩
       ·rw [if_neg c8] at H
        exact absurd H (by simp)
      ·rw [if_neg c6] at H
       exact absurd H (by simp)
     ·rw [if_neg c5] at H
      have c5b0 : decide (x6_1 < 16) = false := decide_eq_false c5
      clear c5
      have H' := Aside0.mk H
      clear H
      go_wp2
      go_meet
      case rel => exact ⟨_, (x5_1), H', ⟨by have := HK1.out; first | omega | exact Nat.le_refl _⟩, ⟨sk HO_5⟩, ⟨bl HB⟩⟩
    ·rw [if_neg c4] at H
     have c4b0 : decide (x6_1 < (l0.length : Int)) = false := decide_eq_false c4
     clear c4
     (first | rw [c4b0] | (simp only [i64_w, i32_w]; rw [c4b0]) | skip)
     have H' := Aside0.mk H
     clear H
     go_wp2
     go_meet
     case rel => exact ⟨_, (x5_1), H', ⟨by have := HK1.out; first | omega | exact Nat.le_refl _⟩, ⟨sk HO_5⟩, ⟨bl HB⟩⟩
 case rest =>
  clear HC3
  try clear c1
  try clear c2
  try clear p2
  try clear c3
  try clear p3
  try clear q3
  try clear hx3
  try clear c4
  try clear c4b0
  try clear c5
  try clear c5b0
  try clear c6
  try clear c6b0
  try clear p6
  try clear c8
  try clear hcz11_0
  try clear hcz11_1
  try clear hcz11_2
  try clear hcz11_3
  try clear hcz11_4
  try clear hcz11_5
  try clear hcz11_6
  try clear hcz15_0
  try clear hcz15_1
  try clear hcz15_2
  try clear hcz15_3
  try clear hcz15_4
  try clear hcz15_5
  try clear hcz15_6
  try clear hfz11_0
  try clear hfz11_1
  try clear hfz11_2
  try clear hfz11_3
  try clear hfz11_4
  try clear hfz11_5
  try clear hfz11_6
  try clear hfz15_0
  try clear hfz15_1
  try clear hfz15_2
  try clear hfz15_3
  try clear hfz15_4
  try clear hfz15_5
  try clear hfz15_6
  try clear hx325_0
  try clear p2
  try clear p325
  try clear q325
  obtain ⟨kq, x5_2, HA, HJ2, HO_5, HB⟩ := hcut
  cases kq with
  | zero => exact absurd HA.out (by simp [selvedgelaw18_made.j1])
  | succ kj2 =>
   have H := HA.out
   clear HA
   simp only [selvedgelaw18_made.j1] at H
   have H' := Aside0.mk H
   clear H
   go_wp2
   go_loopg [5, 9] kj2 (fun kq v5 v9 w' => ∃ (x5_2 : List (S42)) (x9_2 : Int), v9 = .int .i64 x9_2 ∧ Aside0 (selvedgelaw18_made.l1 kq l1 x5_2 x9_2 = some r) ∧ Aside0 (kq ≤ kj2) ∧ Aside0 (Kd.S k42 42 w' w.heap.size (fun _ => True) v5 x5_2) ∧ Aside0 (Below w.heap.size w w'))
   case atStart => exact ⟨(x5_2), (0), (by first | rfl | (simp; done) | (simp [*]; done)), H', ⟨Nat.le_refl _⟩, ⟨sk HO_5⟩, ⟨bl HB⟩⟩
   case round =>
    clear H'
    try clear c1
    try clear c2
    try clear p2
    try clear c3
    try clear p3
    try clear q3
    try clear hx3
    try clear c4
    try clear c4b0
    try clear c5
    try clear c5b0
    try clear c6
    try clear c6b0
    try clear p6
    try clear c8
    try clear hcz11_0
    try clear hcz11_1
    try clear hcz11_2
    try clear hcz11_3
    try clear hcz11_4
    try clear hcz11_5
    try clear hcz11_6
    try clear hcz15_0
    try clear hcz15_1
    try clear hcz15_2
    try clear hcz15_3
    try clear hcz15_4
    try clear hcz15_5
    try clear hcz15_6
    try clear hfz11_0
    try clear hfz11_1
    try clear hfz11_2
    try clear hfz11_3
    try clear hfz11_4
    try clear hfz11_5
    try clear hfz11_6
    try clear hfz15_0
    try clear hfz15_1
    try clear hfz15_2
    try clear hfz15_3
    try clear hfz15_4
    try clear hfz15_5
    try clear hfz15_6
    try clear hx325_0
    try clear p2
    try clear p3
    try clear p325
    try clear p6
    try clear q3
    try clear q325
    obtain ⟨x5_2, x9_2, rfl, HA, HK2, HO_5, HB⟩ := hrel
    cases gk with
    | zero => exact absurd HA.out (by simp [selvedgelaw18_made.l1])
    | succ k2 =>
     have H := HA.out
     clear HA
     simp only [selvedgelaw18_made.l1] at H
     have HC17 := Aside0.mk H
     clear H
     go_upto_region 8 with (fail)
     go_cut [52] (fun v52 wc => ∃ (kq : Nat) (x52_16 : Bool), v52 = .bool x52_16 ∧ Aside0 (selvedgelaw18_made.j3 kq l1 x5_2 x9_2 x52_16 = some r) ∧ Aside0 (kq ≤ k2) ∧ Aside0 (Kd.S k42 42 wc w.heap.size (fun _ => True) u5 x5_2) ∧ Aside0 (Below w.heap.size w wc))
     case first =>
      have H := HC17.out
      clear HC17
      by_cases c18 : x9_2 < (l1.length : Int)
      ·rw [if_pos c18] at H
       have c18b0 : decide (x9_2 < (l1.length : Int)) = true := decide_eq_true c18
       clear c18
       (first | rw [c18b0] | (simp only [i64_w, i32_w]; rw [c18b0]) | skip)
       by_cases c19 : x9_2 < 60
       ·rw [if_pos c19] at H
        have c19b0 : decide (x9_2 < 60) = true := decide_eq_true c19
        clear c19
        have H' := Aside0.mk H
        clear H
        obtain ⟨Ao20, co20, eo20⟩ := Kd.S_slice HO_5.out
        subst eo20
        go_wp2
        go_meet
        case rel => exact ⟨_, (decide ((x5_2.length : Int) > 0)), (by first | rfl | (simp; done) | (simp [*]; done)), H', ⟨by have := HJ2.out; have := HK2.out; first | omega | exact Nat.le_refl _⟩, ⟨sk HO_5⟩, ⟨bl HB⟩⟩
       ·rw [if_neg c19] at H
        have c19b0 : decide (x9_2 < 60) = false := decide_eq_false c19
        clear c19
        have H' := Aside0.mk H
        clear H
        go_wp2
        go_meet
        case rel => exact ⟨_, (false), (by first | rfl | (simp; done) | (simp [*]; done)), H', ⟨by have := HJ2.out; have := HK2.out; first | omega | exact Nat.le_refl _⟩, ⟨sk HO_5⟩, ⟨bl HB⟩⟩
      ·rw [if_neg c18] at H
       have c18b0 : decide (x9_2 < (l1.length : Int)) = false := decide_eq_false c18
       clear c18
       (first | rw [c18b0] | (simp only [i64_w, i32_w]; rw [c18b0]) | skip)
       have H' := Aside0.mk H
       clear H
       go_wp2
       go_meet
       case rel => exact ⟨_, (false), (by first | rfl | (simp; done) | (simp [*]; done)), H', ⟨by have := HJ2.out; have := HK2.out; first | omega | exact Nat.le_refl _⟩, ⟨sk HO_5⟩, ⟨bl HB⟩⟩
     case rest =>
      clear HC17
      try clear c1
      try clear c2
      try clear p2
      try clear c3
      try clear p3
      try clear q3
      try clear hx3
      try clear c4
      try clear c4b0
      try clear c5
      try clear c5b0
      try clear c6
      try clear c6b0
      try clear p6
      try clear c8
      try clear c18
      try clear c18b0
      try clear c19
      try clear c19b0
      try clear hcz11_0
      try clear hcz11_1
      try clear hcz11_2
      try clear hcz11_3
      try clear hcz11_4
      try clear hcz11_5
      try clear hcz11_6
      try clear hcz15_0
      try clear hcz15_1
      try clear hcz15_2
      try clear hcz15_3
      try clear hcz15_4
      try clear hcz15_5
      try clear hcz15_6
      try clear hfz11_0
      try clear hfz11_1
      try clear hfz11_2
      try clear hfz11_3
      try clear hfz11_4
      try clear hfz11_5
      try clear hfz11_6
      try clear hfz15_0
      try clear hfz15_1
      try clear hfz15_2
      try clear hfz15_3
      try clear hfz15_4
      try clear hfz15_5
      try clear hfz15_6
      try clear hx325_0
      try clear p2
      try clear p3
      try clear p325
      try clear p6
      try clear q3
      try clear q325
      obtain ⟨kq, x52_16, rfl, HA, HJ16, HO_5, HB⟩ := hcut
      cases kq with
      | zero => exact absurd HA.out (by simp [selvedgelaw18_made.j3])
      | succ kj16 =>
       have H := HA.out
       clear HA
       simp only [selvedgelaw18_made.j3] at H
       by_cases c21 : x52_16 = true
       ·subst c21
        have H1 : (if 0 ≤ x9_2 then (if x9_2 < (l1.length : Int) then (if (x5_2.length : Int) = 0 then (none) else (if 0 ≤ (Int.tmod (wrap64 (rd l1 x9_2)) (x5_2.length : Int)) then (if (Int.tmod (wrap64 (rd l1 x9_2)) (x5_2.length : Int)) < (x5_2.length : Int) then (if ((rd_T42 x5_2 (Int.tmod (wrap64 (rd l1 x9_2)) (x5_2.length : Int))).f1) = 0 then (none) else ((selvedgeref18_Take.f x5_2 (Int.tmod (wrap64 (rd l1 x9_2)) (x5_2.length : Int)) (Int.tmod (wrap64 (rd l1 x9_2)) ((rd_T42 x5_2 (Int.tmod (wrap64 (rd l1 x9_2)) (x5_2.length : Int))).f1))).bind fun bt345 => (if bt345.2.2.2 = 0 then (selvedgelaw18_made.l1 kj16 l1 bt345.1 (wrap64 (x9_2 + 1))) else (selvedgelaw18_made.l1 kj16 l1 x5_2 (wrap64 (x9_2 + 1)))))) else (none)) else (none))) else (none)) else (none)) = some r := by rw [if_pos rfl] at H; exact H
        clear H
        have H := H1
        clear H1
        by_cases c22 : 0 ≤ x9_2
        ·rw [if_pos c22] at H
         have c22b0 : decide (0 ≤ x9_2) = true := decide_eq_true c22
         clear c22
         by_cases c23 : x9_2 < (l1.length : Int)
         ·rw [if_pos c23] at H
          have c23b0 : decide (x9_2 < (l1.length : Int)) = true := decide_eq_true c23
          clear c23
          by_cases c24 : (x5_2.length : Int) = 0
          ·rw [if_pos c24] at H
           exact absurd H (by simp)
          ·rw [if_neg c24] at H
           have c24b0 : ((x5_2.length : Int) == 0) = false := beq_eq_false_iff_ne.mpr c24
           have c24b1 : ((x5_2.length : Int) != 0) = true := bne_iff_ne.mpr c24
           have c24b2 : ¬ (x5_2 = []) := fun h_ => c24 (by rw [h_]; rfl)
           obtain ⟨ji25, hji25⟩ : ∃ j_ : Int, (Int.tmod (wrap64 (rd l1 x9_2)) (x5_2.length : Int)) = j_ := ⟨_, rfl⟩
           replace H : (if 0 ≤ (ji25) then (if (ji25) < (x5_2.length : Int) then (if ((rd_T42 x5_2 (ji25)).f1) = 0 then (none) else ((selvedgeref18_Take.f x5_2 (ji25) (Int.tmod (wrap64 (rd l1 x9_2)) ((rd_T42 x5_2 (ji25)).f1))).bind fun bt345 => (if bt345.2.2.2 = 0 then (selvedgelaw18_made.l1 kj16 l1 bt345.1 (wrap64 (x9_2 + 1))) else (selvedgelaw18_made.l1 kj16 l1 x5_2 (wrap64 (x9_2 + 1)))))) else (none)) else (none)) = some r := by first | (rw [hji25] at H; exact H) | (simp only [hji25] at H ⊢; exact H)
           by_cases c26 : 0 ≤ (ji25)
           ·rw [if_pos c26] at H
            have c26b0 : decide (0 ≤ (ji25)) = true := decide_eq_true c26
            clear c26
            by_cases c27 : (ji25) < (x5_2.length : Int)
            ·rw [if_pos c27] at H
             have c27b0 : decide ((ji25) < (x5_2.length : Int)) = true := decide_eq_true c27
             clear c27
             by_cases c28 : ((rd_T42 x5_2 (ji25)).f1) = 0
             ·rw [if_pos c28] at H
              exact absurd H (by simp)
             ·rw [if_neg c28] at H
              have c28b0 : (((rd_T42 x5_2 (ji25)).f1) == 0) = false := beq_eq_false_iff_ne.mpr c28
              have c28b1 : (((rd_T42 x5_2 (ji25)).f1) != 0) = true := bne_iff_ne.mpr c28
              replace H := Option.bind_eq_some_iff.mp H
              obtain ⟨⟨t345, t348, t349, t350⟩, A290, H⟩ := H
              try dsimp -implicitDefEqProofs -simprocs only at H
              have A29 := Aside0.mk A290
              clear A290
              by_cases c30 : t350 = 0
              ·rw [if_pos c30] at H
               have c30b0 : (t350 == 0) = true := beq_iff_eq.mpr c30
               have c30b1 : (t350 != 0) = false := bne_eq_false_iff_eq.mpr c30
               clear c30
               have H' := Aside0.mk H
               clear H
               have p342 : 0 ≤ (x9_2 : Int) := of_decide_eq_true (by assumption)
               have q342 : x9_2 < (l1.length : Int) := of_decide_eq_true (by assumption)
               obtain ⟨ad342, e342, hx342_0⟩ := Kd.at_int HR1.out x9_2 p342 q342
               cases e342
               replace hx342_0 := pw_cell_below HB.out hx342_0
               replace p342 := eq_true p342
               replace q342 := eq_true q342
               obtain ⟨Ao31, co31, eo31⟩ := Kd.S_slice HO_5.out
               subst eo31
               try go_wp2
               have n0_ := Aside0.mk (Kd.S_drew HO_5.out)
               have n1_ := Aside0.mk (below_drew1 HB.out)
               clear HO_5
               clear HB
               have HO_5 := n0_
               have HB := n1_
               clear n0_ n1_
               have p343 : 0 ≤ (x9_2 : Int) := of_decide_eq_true (by assumption)
               have q343 : x9_2 < (l1.length : Int) := of_decide_eq_true (by assumption)
               obtain ⟨ad343, e343, hx343_0⟩ := Kd.at_int HR1.out x9_2 p343 q343
               have hw343_0 := hx343_0
               obtain rfl : ad342 = ad343 := (by injection e343)
               replace hx343_0 := pw_cell_below HB.out hx343_0
               replace p343 := eq_true p343
               replace q343 := eq_true q343
               have p344 : 0 ≤ ((ji25) : Int) := of_decide_eq_true (by assumption)
               have q344 : (ji25) < (x5_2.length : Int) := of_decide_eq_true (by assumption)
               obtain ⟨ad344, A344_5, c344_5, A344_6, c344_6, e344, hx344_0, hx344_1, hx344_2, hx344_3, hx344_4, hx344_5, hx344_6, hl344_5, hi344_5, hl344_6, hi344_6⟩ := at_T42 (Kd.S_reads' HO_5.out).2.2 (ji25) p344 q344
               cases e344
               obtain ⟨ce344, hce344, hMe344, hcc344⟩ := Kd.S_get HO_5.out z42 (ji25) p344 (by first | exact q344 | exact of_decide_eq_true (by assumption) | (have e_ := (Kd.S_reads' HO_5.out).1; omega))
               obtain ⟨ve344_5, ve344_6, rfl, ge344_5, ge344_6⟩ := k42_openM hMe344
               have hv344_5 := hcc344 5 _ rfl
               rw [add_field _ _ 5 (by omega)] at hv344_5
               replace hv344_5 := Option.some.inj (hv344_5.symm.trans hx344_5)
               rw [hv344_5] at ge344_5
               have HL344_5 := Aside0.mk (show Kd.R (Kd.int .i64) 3 _ _ _ _ ((rd_T42 x5_2 (ji25)).f5) from ge344_5)
               clear hv344_5 ge344_5
               have hv344_6 := hcc344 6 _ rfl
               rw [add_field _ _ 6 (by omega)] at hv344_6
               replace hv344_6 := Option.some.inj (hv344_6.symm.trans hx344_6)
               rw [hv344_6] at ge344_6
               have HL344_6 := Aside0.mk (show Kd.R (Kd.int .i64) 3 _ _ _ _ ((rd_T42 x5_2 (ji25)).f6) from ge344_6)
               clear hv344_6 ge344_6
               clear hcc344 hce344
               have HR344_5 := Aside0.mk hi344_5
               have HC344_5 := Aside0.mk hl344_5
               clear hi344_5 hl344_5
               have HR344_6 := Aside0.mk hi344_6
               have HC344_6 := Aside0.mk hl344_6
               clear hi344_6 hl344_6
               replace p344 := eq_true p344
               replace q344 := eq_true q344
               refine start_ (n := 23) (S := fun w' => w'.cell? (ad342.add (x9_2).toNat) = some (.int .u8 (rd l1 x9_2)) ∧ w'.cell? (ad344.add (((ji25)).toNat * 7)) = some (.int .i64 ((rd_T42 x5_2 (ji25)).f0)) ∧ w'.cell? ⟨(ad344.add (((ji25)).toNat * 7)).block, (ad344.add (((ji25)).toNat * 7)).off + 1, none⟩ = some (.int .i64 ((rd_T42 x5_2 (ji25)).f1)) ∧ w'.cell? ⟨(ad344.add (((ji25)).toNat * 7)).block, (ad344.add (((ji25)).toNat * 7)).off + 2, none⟩ = some (.int .i64 ((rd_T42 x5_2 (ji25)).f2)) ∧ w'.cell? ⟨(ad344.add (((ji25)).toNat * 7)).block, (ad344.add (((ji25)).toNat * 7)).off + 3, none⟩ = some (.int .i64 ((rd_T42 x5_2 (ji25)).f3)) ∧ w'.cell? ⟨(ad344.add (((ji25)).toNat * 7)).block, (ad344.add (((ji25)).toNat * 7)).off + 4, none⟩ = some (.int .i64 ((rd_T42 x5_2 (ji25)).f4)) ∧ w'.cell? ⟨(ad344.add (((ji25)).toNat * 7)).block, (ad344.add (((ji25)).toNat * 7)).off + 5, none⟩ = some (.slice A344_5 ((rd_T42 x5_2 (ji25)).f5).length c344_5) ∧ w'.cell? ⟨(ad344.add (((ji25)).toNat * 7)).block, (ad344.add (((ji25)).toNat * 7)).off + 6, none⟩ = some (.slice A344_6 ((rd_T42 x5_2 (ji25)).f6).length c344_6)) (ds := []) #[false, false, false, false, false, false, false, false, false, false, false, false, false, false, false, false, false, false, false, false, false, false, false] (by kernel_rfl) rfl rfl ⟨(pw_cell_below HB.out hw343_0), hx344_0, hx344_1, hx344_2, hx344_3, hx344_4, hx344_5, hx344_6⟩ (fun hHeld => ?_); refine with_tabW selvedgelaw18_made.tab11 selvedgelaw18_made.bits11 (fun HT_ HW_ => ?_)
               generalize wc.drew = w32 at HO_5 HB HL344_5 HL344_6 HR344_5 HR344_6 hx343_0 hx344_0 hx344_1 hx344_2 hx344_3 hx344_4 hx344_5 hx344_6 hHeld ⊢
               refine pure_ (i := 0) (N := some 64) (v := ?_) (a' := ?_) #[true, false, false, false, false, false, false, false, false, false, false, false, false, false, false, false, false, false, false, false, false, false, false] rfl rfl (any_of HT_.out (by kernel_rfl)) (fun _ _ _ h => h) (Or.inl ⟨by rfl, ?_⟩) ?_ ?_
               rotate_left
               ·intro w'
                go_simp
                with_reducible rfl
               rotate_left
               ·simp only [Act.put, List.setIfInBounds_toArray, List.set_cons_zero, List.set_cons_succ, i64_w, i32_w]
                rfl
               refine pure_ (i := 1) (N := some 65) (v := ?_) (a' := ?_) #[true, true, false, false, false, false, false, false, false, false, false, false, false, false, false, false, false, false, false, false, false, false, false] rfl rfl (any_of HT_.out (by kernel_rfl)) (fun _ _ _ h => h) (Or.inl ⟨by rfl, ?_⟩) ?_ ?_
               rotate_left
               ·intro w'
                go_simp
                with_reducible rfl
               rotate_left
               ·simp only [Act.put, List.setIfInBounds_toArray, List.set_cons_zero, List.set_cons_succ, i64_w, i32_w]
                rfl
               refine pure_ (i := 2) (N := some 66) (v := ?_) (a' := ?_) #[true, true, true, false, false, false, false, false, false, false, false, false, false, false, false, false, false, false, false, false, false, false, false] rfl rfl (any_of HT_.out (by kernel_rfl)) (fun _ _ _ h => h) (Or.inl ⟨by rfl, ?_⟩) ?_ ?_
               rotate_left
               ·intro w'
                go_simp
                with_reducible rfl
               rotate_left
               ·simp only [Act.put, List.setIfInBounds_toArray, List.set_cons_zero, List.set_cons_succ, i64_w, i32_w]
                rfl
               refine pure_ (i := 3) (N := some 67) (v := ?_) (a' := ?_) #[true, true, true, true, false, false, false, false, false, false, false, false, false, false, false, false, false, false, false, false, false, false, false] rfl rfl (any_of HT_.out (by kernel_rfl)) (fun _ _ _ h => h) (Or.inl ⟨by rfl, ?_⟩) ?_ ?_
               rotate_left
               ·intro w'
                go_simp
                with_reducible rfl
               rotate_left
               ·simp only [Act.put, List.setIfInBounds_toArray, List.set_cons_zero, List.set_cons_succ, i64_w, i32_w]
                rfl
               refine pure_ (i := 4) (N := some 68) (v := ?_) (a' := ?_) #[true, true, true, true, true, false, false, false, false, false, false, false, false, false, false, false, false, false, false, false, false, false, false] rfl rfl (any_of HT_.out (by kernel_rfl)) (fun _ _ _ h => h) (Or.inl ⟨by rfl, ?_⟩) ?_ ?_
               rotate_left
               ·intro w'
                go_simp
                with_reducible rfl
               rotate_left
               ·simp only [Act.put, List.setIfInBounds_toArray, List.set_cons_zero, List.set_cons_succ, i64_w, i32_w]
                rfl
               refine pure_ (i := 7) (N := some 71) (v := ?_) (a' := ?_) #[true, true, true, true, true, false, false, true, false, false, false, false, false, false, false, false, false, false, false, false, false, false, false] rfl rfl (any_of HT_.out (by kernel_rfl)) (fun _ _ _ h => h) (Or.inl ⟨by rfl, ?_⟩) ?_ ?_
               rotate_left
               ·intro w'
                go_simp
                with_reducible rfl
               rotate_left
               ·simp only [Act.put, List.setIfInBounds_toArray, List.set_cons_zero, List.set_cons_succ, i64_w, i32_w]
                rfl
               refine pure_ (i := 8) (N := some 72) (v := ?_) (a' := ?_) #[true, true, true, true, true, false, false, true, true, false, false, false, false, false, false, false, false, false, false, false, false, false, false] rfl rfl (any_of HT_.out (by kernel_rfl)) (fun _ _ _ h => h) (Or.inl ⟨by rfl, ?_⟩) ?_ ?_
               rotate_left
               ·intro w'
                go_simp
                with_reducible rfl
               rotate_left
               ·simp only [Act.put, List.setIfInBounds_toArray, List.set_cons_zero, List.set_cons_succ, i64_w, i32_w]
                rfl
               refine pure_ (i := 9) (N := some 73) (v := ?_) (a' := ?_) #[true, true, true, true, true, false, false, true, true, true, false, false, false, false, false, false, false, false, false, false, false, false, false] rfl rfl (any_of HT_.out (by kernel_rfl)) (fun _ _ _ h => h) (Or.inl ⟨by rfl, ?_⟩) ?_ ?_
               rotate_left
               ·intro w'
                go_simp
                with_reducible rfl
               rotate_left
               ·simp only [Act.put, List.setIfInBounds_toArray, List.set_cons_zero, List.set_cons_succ, i64_w, i32_w]
                rfl
               refine pure_ (i := 10) (N := some 74) (v := ?_) (a' := ?_) #[true, true, true, true, true, false, false, true, true, true, true, false, false, false, false, false, false, false, false, false, false, false, false] rfl rfl (any_of HT_.out (by kernel_rfl)) (fun _ _ _ h => h) (Or.inl ⟨by rfl, ?_⟩) ?_ ?_
               rotate_left
               ·intro w'
                go_simp
                with_reducible rfl
               rotate_left
               ·simp only [Act.put, List.setIfInBounds_toArray, List.set_cons_zero, List.set_cons_succ, i64_w, i32_w]
                rfl
               refine take_ (i := 5) (N := some 69) (v := ?_) (a' := ?_) #[true, true, true, true, true, true, false, true, true, true, true, false, false, false, false, false, false, false, false, false, false, false, false] rfl rfl (take_ofW HT_.out HW_.out (by kernel_rfl)) (fun _ _ _ h => h) (Or.inl ⟨by rfl, ?_⟩) hHeld ?_ ?_
               rotate_left
               ·rintro w' ⟨s0, s1, s2, s3, s4, s5, s6, s7⟩
                go_simp
                with_reducible rfl
               rotate_left
               ·simp only [Act.put, List.setIfInBounds_toArray, List.set_cons_zero, List.set_cons_succ, i64_w, i32_w]
                rfl
               refine pure_ (i := 6) (N := some 70) (v := ?_) (a' := ?_) #[true, true, true, true, true, true, true, true, true, true, true, false, false, false, false, false, false, false, false, false, false, false, false] rfl rfl (any_of HT_.out (by kernel_rfl)) (fun _ _ _ h => h) (Or.inl ⟨by rfl, ?_⟩) ?_ ?_
               rotate_left
               ·intro w'
                go_simp
                with_reducible rfl
               rotate_left
               ·simp only [Act.put, List.setIfInBounds_toArray, List.set_cons_zero, List.set_cons_succ, i64_w, i32_w]
                rfl
               refine take_ (i := 11) (N := some 75) (v := ?_) (a' := ?_) #[true, true, true, true, true, true, true, true, true, true, true, true, false, false, false, false, false, false, false, false, false, false, false] rfl rfl (take_ofW HT_.out HW_.out (by kernel_rfl)) (fun _ _ _ h => h) (Or.inl ⟨by rfl, ?_⟩) hHeld ?_ ?_
               rotate_left
               ·rintro w' ⟨s0, s1, s2, s3, s4, s5, s6, s7⟩
                go_simp
                with_reducible rfl
               rotate_left
               ·simp only [Act.put, List.setIfInBounds_toArray, List.set_cons_zero, List.set_cons_succ, i64_w, i32_w]
                rfl
               refine pure_ (i := 12) (N := some 76) (v := ?_) (a' := ?_) #[true, true, true, true, true, true, true, true, true, true, true, true, true, false, false, false, false, false, false, false, false, false, false] rfl rfl (any_of HT_.out (by kernel_rfl)) (fun _ _ _ h => h) (Or.inl ⟨by rfl, ?_⟩) ?_ ?_
               rotate_left
               ·intro w'
                go_simp
                with_reducible rfl
               rotate_left
               ·simp only [Act.put, List.setIfInBounds_toArray, List.set_cons_zero, List.set_cons_succ, i64_w, i32_w]
                rfl
               refine pure_ (i := 13) (N := some 77) (v := ?_) (a' := ?_) #[true, true, true, true, true, true, true, true, true, true, true, true, true, true, false, false, false, false, false, false, false, false, false] rfl rfl (any_of HT_.out (by kernel_rfl)) (fun _ _ _ h => h) (Or.inl ⟨by rfl, ?_⟩) ?_ ?_
               rotate_left
               ·intro w'
                go_simp
                with_reducible rfl
               rotate_left
               ·simp only [Act.put, List.setIfInBounds_toArray, List.set_cons_zero, List.set_cons_succ, i64_w, i32_w]
                rfl
               refine join_ (σ := Value × Nat) 3 #[true, true, true, true, true, true, true, true, true, true, true, true, true, true, true, true, true, true, true, true, false, false, false] (fun s_ => [(78, .tuple #[s_.1, .agg #[.int .i64 t348, .int .i64 t349], .int .i64 t350]), (12, .pointer (some ⟨s_.2, 0, none⟩)), (63, .tuple #[s_.1, .agg #[.int .i64 t348, .int .i64 t349], .int .i64 t350]), (79, s_.1), (80, .agg #[.int .i64 t348, .int .i64 t349]), (81, .int .i64 t350)]) (fun s_ w' => (w'.cell? (ad342.add (x9_2).toNat) = some (.int .u8 (rd l1 x9_2)) ∧ w'.cell? (ad344.add (((ji25)).toNat * 7)) = some (.int .i64 ((rd_T42 x5_2 (ji25)).f0)) ∧ w'.cell? ⟨(ad344.add (((ji25)).toNat * 7)).block, (ad344.add (((ji25)).toNat * 7)).off + 1, none⟩ = some (.int .i64 ((rd_T42 x5_2 (ji25)).f1)) ∧ w'.cell? ⟨(ad344.add (((ji25)).toNat * 7)).block, (ad344.add (((ji25)).toNat * 7)).off + 2, none⟩ = some (.int .i64 ((rd_T42 x5_2 (ji25)).f2)) ∧ w'.cell? ⟨(ad344.add (((ji25)).toNat * 7)).block, (ad344.add (((ji25)).toNat * 7)).off + 3, none⟩ = some (.int .i64 ((rd_T42 x5_2 (ji25)).f3)) ∧ w'.cell? ⟨(ad344.add (((ji25)).toNat * 7)).block, (ad344.add (((ji25)).toNat * 7)).off + 4, none⟩ = some (.int .i64 ((rd_T42 x5_2 (ji25)).f4)) ∧ w'.cell? ⟨(ad344.add (((ji25)).toNat * 7)).block, (ad344.add (((ji25)).toNat * 7)).off + 5, none⟩ = some (.slice A344_5 ((rd_T42 x5_2 (ji25)).f5).length c344_5) ∧ w'.cell? ⟨(ad344.add (((ji25)).toNat * 7)).block, (ad344.add (((ji25)).toNat * 7)).off + 6, none⟩ = some (.slice A344_6 ((rd_T42 x5_2 (ji25)).f6).length c344_6)) ∧ (Kd.R (Kd.int .i64) 3 w' w.heap.size (fun k_ => some k_ ≠ (.slice (some ad344) x5_2.length co31 : Value).ownBlock) (.slice A344_5 ((rd_T42 x5_2 (ji25)).f5).length c344_5) ((rd_T42 x5_2 (ji25)).f5)) ∧ (Kd.R (Kd.int .i64) 3 w' w.heap.size (fun k_ => some k_ ≠ (.slice (some ad344) x5_2.length co31 : Value).ownBlock) (.slice A344_6 ((rd_T42 x5_2 (ji25)).f6).length c344_6) ((rd_T42 x5_2 (ji25)).f6)) ∧ (Kd.S k42 42 w' w.heap.size (fun k_ => some k_ ≠ (.slice A344_5 ((rd_T42 x5_2 (ji25)).f5).length c344_5 : Value).ownBlock ∧ some k_ ≠ (.slice A344_6 ((rd_T42 x5_2 (ji25)).f6).length c344_6 : Value).ownBlock ∧ some k_ ≠ (.slice (some ad344) x5_2.length co31 : Value).ownBlock) s_.1 t345) ∧ (Kd.S k42 42 w' w.heap.size (fun k_ => some k_ ≠ (s_.1 : Value).ownBlock) (.slice (some ad344) x5_2.length co31) x5_2) ∧ (w'.heap[s_.2]? = some (.cells #[.int .i64 0, .int .i64 0] 24 (0, 0))) ∧ (w.heap.size ≤ s_.2) ∧ (w.heap.size ≤ s_.2) ∧ (Below w.heap.size w w')) ?_ ?_
               rotate_left
               ·intro hCont
                refine two_ (i := 14) (j := 19) (Ni := some 78) (Nj := some 12) #[true, true, true, true, true, true, true, true, true, true, true, true, true, true, true, false, false, false, false, false, false, false, false] #[true, true, true, true, true, true, true, true, true, true, true, true, true, true, false, false, false, false, false, true, false, false, false] rfl rfl rfl rfl (two_of HT_.out (by kernel_rfl)) (by decide) (by decide) (fun K hK => ?_) (fun K hK => ?_)
                ·skip
                 refine goes_ Try.func14 (by kernel_rfl) rfl #[.slice (some ad344) x5_2.length co31, .agg #[.int .i64 ji25, .int .i64 (Int.tmod (wrap64 (rd l1 x9_2)) ((rd_T42 x5_2 (ji25)).f1))]] (by rfl) rfl rfl (by (try simp only [List.map_toArray, List.map_cons, List.map_nil]); first | done | (simp only [hji25]; rfl) | rfl | (simp only [List.length_drop, List.length_take]; rfl)) ?_
                 with_reducible refine (selvedgeref18_Take.calls _ _ x5_2 ji25 (Int.tmod (wrap64 (rd l1 x9_2)) ((rd_T42 x5_2 (ji25)).f1)) t345 t348 t349 t350 _ ?side1 ?side2 A29.out).mono ?_
                 (case side1 => repeat (first | exact (Kd.S_reads' HO_5.out).2.2 | (with_reducible refine Kd.C_alloc ?_ _) | (with_reducible refine Kd.C_drewN ?_ _) | (with_reducible refine Kd.C_drew ?_)))
                 (case side2 => exact (Kd.S_reads' HO_5.out).2.1)
                 rintro e w33 ⟨v346, rfl, ho0, hb⟩
                 have HS1_ := (hb.cell (World.block_lt_of_cell? _ _ (hHeld.2.1))).trans (hHeld.2.1)
                 have HS2_ := (hb.cell (World.block_lt_of_cell? _ _ (hHeld.2.2.1))).trans (hHeld.2.2.1)
                 have HS3_ := (hb.cell (World.block_lt_of_cell? _ _ (hHeld.2.2.2.1))).trans (hHeld.2.2.2.1)
                 have HS4_ := (hb.cell (World.block_lt_of_cell? _ _ (hHeld.2.2.2.2.1))).trans (hHeld.2.2.2.2.1)
                 have HS5_ := (hb.cell (World.block_lt_of_cell? _ _ (hHeld.2.2.2.2.2.1))).trans (hHeld.2.2.2.2.2.1)
                 have HS6_ := (hb.cell (World.block_lt_of_cell? _ _ (hHeld.2.2.2.2.2.2.1))).trans (hHeld.2.2.2.2.2.2.1)
                 have HS7_ := (hb.cell (World.block_lt_of_cell? _ _ (hHeld.2.2.2.2.2.2.2))).trans (hHeld.2.2.2.2.2.2.2)
                 refine ⟨_, rfl, ?_⟩
                 have hone_v346 := Kd.S_one ho0
                 have n0_ := Aside0.mk (Kd.S_elder' (sk HO_5) (Kd.S_base ho0) hb)
                 have n1_ := Aside0.mk (Kd.R_below (rk HL344_5) hb)
                 have n2_ := Aside0.mk (Kd.R_below (rk HL344_6) hb)
                 have n3_ := Aside0.mk (Kd.S_lower (Kd.S_new' (Kd.S_new' (Kd.S_new' ho0 (Kd.S_lt (sk HO_5))) (Kd.R_lt (rk HL344_5))) (Kd.R_lt (rk HL344_6))) (below_size (bl HB)))
                 have n4_ := Aside0.mk (Kd.C_below (by repeat (first | (with_reducible exact HR344_5.out) | (with_reducible refine Kd.C_alloc ?_ _) | (with_reducible refine Kd.C_drewN ?_ _) | (with_reducible refine Kd.C_drew ?_) | exact HR344_5.out)) hb)
                 have n5_ := Aside0.mk (Kd.C_below (by repeat (first | (with_reducible exact HR344_6.out) | (with_reducible refine Kd.C_alloc ?_ _) | (with_reducible refine Kd.C_drewN ?_ _) | (with_reducible refine Kd.C_drew ?_) | exact HR344_6.out)) hb)
                 have n6_ := Aside0.mk (below_step (bl HB) hb)
                 clear HO_5
                 clear HL344_5
                 clear HL344_6
                 clear HR344_5
                 clear HR344_6
                 clear HB
                 have HO_5 := n0_
                 have HL344_5 := n1_
                 have HL344_6 := n2_
                 have HO347 := n3_
                 have HR344_5 := n4_
                 have HR344_6 := n5_
                 have HB := n6_
                 clear n0_ n1_ n2_ n3_ n4_ n5_ n6_
                 (try clear hb)
                 (try clear hb2)
                 (try clear hk)
                 (try clear hi)
                 (try clear ho0)
                 refine hK.out _ _ ⟨(pw_cell_below HB.out hw343_0), HS1_, HS2_, HS3_, HS4_, HS5_, HS6_, HS7_⟩ (fun hHeld => ?_)
                 clear hK K
                 refine norm_ (a' := ?_) ?_ ?_
                 rotate_left
                 ·show Act.put _ (some 78) _ = _
                  simp only [Act.put, List.setIfInBounds_toArray, List.set_cons_zero, List.set_cons_succ, i64_w, i32_w]
                  rfl
                 refine pure_ (i := 15) (N := some 63) (v := ?_) (a' := ?_) #[true, true, true, true, true, true, true, true, true, true, true, true, true, true, true, true, false, false, false, false, false, false, false] rfl rfl (any_of HT_.out (by kernel_rfl)) (fun _ _ _ h => h) (Or.inl ⟨by rfl, ?_⟩) ?_ ?_
                 rotate_left
                 ·intro w'
                  go_simp
                  with_reducible rfl
                 rotate_left
                 ·simp only [Act.put, List.setIfInBounds_toArray, List.set_cons_zero, List.set_cons_succ, i64_w, i32_w]
                  rfl
                 refine pure_ (i := 16) (N := some 79) (v := ?_) (a' := ?_) #[true, true, true, true, true, true, true, true, true, true, true, true, true, true, true, true, true, false, false, false, false, false, false] rfl rfl (any_of HT_.out (by kernel_rfl)) (fun _ _ _ h => h) (Or.inl ⟨by rfl, ?_⟩) ?_ ?_
                 rotate_left
                 ·intro w'
                  go_simp
                  with_reducible rfl
                 rotate_left
                 ·simp only [Act.put, List.setIfInBounds_toArray, List.set_cons_zero, List.set_cons_succ, i64_w, i32_w]
                  rfl
                 refine pure_ (i := 17) (N := some 80) (v := ?_) (a' := ?_) #[true, true, true, true, true, true, true, true, true, true, true, true, true, true, true, true, true, true, false, false, false, false, false] rfl rfl (any_of HT_.out (by kernel_rfl)) (fun _ _ _ h => h) (Or.inl ⟨by rfl, ?_⟩) ?_ ?_
                 rotate_left
                 ·intro w'
                  go_simp
                  with_reducible rfl
                 rotate_left
                 ·simp only [Act.put, List.setIfInBounds_toArray, List.set_cons_zero, List.set_cons_succ, i64_w, i32_w]
                  rfl
                 refine pure_ (i := 18) (N := some 81) (v := ?_) (a' := ?_) #[true, true, true, true, true, true, true, true, true, true, true, true, true, true, true, true, true, true, true, false, false, false, false] rfl rfl (any_of HT_.out (by kernel_rfl)) (fun _ _ _ h => h) (Or.inl ⟨by rfl, ?_⟩) ?_ ?_
                 rotate_left
                 ·intro w'
                  go_simp
                  with_reducible rfl
                 rotate_left
                 ·simp only [Act.put, List.setIfInBounds_toArray, List.set_cons_zero, List.set_cons_succ, i64_w, i32_w]
                  rfl
                 refine one_ (i := 19) (N := some 12) #[true, true, true, true, true, true, true, true, true, true, true, true, true, true, true, true, true, true, true, true, false, false, false] rfl rfl (one_of HT_.out (by kernel_rfl)) (by decide) (fun K hK => ?_)
                 refine box_step ?hg (N := 12) ?hd (cs := #[.int .i64 0, .int .i64 0]) (t := 24) ?hr ?_; (case hd => rfl); (case hg => rfl); (case hr => first | (go_simp; done) | (go_simp; rfl))
                 intro gb351 hg w34 hbox hb
                 have HS1_ := (hb.cell (World.block_lt_of_cell? _ _ (hHeld.2.1))).trans (hHeld.2.1)
                 have HS2_ := (hb.cell (World.block_lt_of_cell? _ _ (hHeld.2.2.1))).trans (hHeld.2.2.1)
                 have HS3_ := (hb.cell (World.block_lt_of_cell? _ _ (hHeld.2.2.2.1))).trans (hHeld.2.2.2.1)
                 have HS4_ := (hb.cell (World.block_lt_of_cell? _ _ (hHeld.2.2.2.2.1))).trans (hHeld.2.2.2.2.1)
                 have HS5_ := (hb.cell (World.block_lt_of_cell? _ _ (hHeld.2.2.2.2.2.1))).trans (hHeld.2.2.2.2.2.1)
                 have HS6_ := (hb.cell (World.block_lt_of_cell? _ _ (hHeld.2.2.2.2.2.2.1))).trans (hHeld.2.2.2.2.2.2.1)
                 have HS7_ := (hb.cell (World.block_lt_of_cell? _ _ (hHeld.2.2.2.2.2.2.2))).trans (hHeld.2.2.2.2.2.2.2)
                 have n0_ := Aside0.mk (Kd.S_below (sk HO_5) hb)
                 have n1_ := Aside0.mk (Kd.R_below (rk HL344_5) hb)
                 have n2_ := Aside0.mk (Kd.R_below (rk HL344_6) hb)
                 have n3_ := Aside0.mk (Kd.S_below (sk HO347) hb)
                 have n4_ := Aside0.mk (Kd.C_below (by repeat (first | (with_reducible exact HR344_5.out) | (with_reducible refine Kd.C_alloc ?_ _) | (with_reducible refine Kd.C_drewN ?_ _) | (with_reducible refine Kd.C_drew ?_) | exact HR344_5.out)) hb)
                 have n5_ := Aside0.mk (Kd.C_below (by repeat (first | (with_reducible exact HR344_6.out) | (with_reducible refine Kd.C_alloc ?_ _) | (with_reducible refine Kd.C_drewN ?_ _) | (with_reducible refine Kd.C_drew ?_) | exact HR344_6.out)) hb)
                 have n6_ := Aside0.mk (below_step (bl HB) hb)
                 have n7_ := Aside0.mk (hbox)
                 have n8_ := gs HB hg
                 have n9_ := gs HB hg
                 clear HO_5
                 clear HL344_5
                 clear HL344_6
                 clear HO347
                 clear HR344_5
                 clear HR344_6
                 clear HB
                 have HO_5 := n0_
                 have HL344_5 := n1_
                 have HL344_6 := n2_
                 have HO347 := n3_
                 have HR344_5 := n4_
                 have HR344_6 := n5_
                 have HB := n6_
                 have BK351 := n7_
                 have GW351 := n8_
                 have GE351 := n9_
                 clear n0_ n1_ n2_ n3_ n4_ n5_ n6_ n7_ n8_ n9_
                 clear hb hbox hg
                 refine hK.out _ _ ⟨(pw_cell_below HB.out hw343_0), HS1_, HS2_, HS3_, HS4_, HS5_, HS6_, HS7_⟩ (fun hHeld => ?_)
                 clear hK K
                 refine norm_ (a' := ?_) ?_ ?_
                 rotate_left
                 ·show Act.put _ (some 12) _ = _
                  simp only [Act.put, List.setIfInBounds_toArray, List.set_cons_zero, List.set_cons_succ, i64_w, i32_w]
                  rfl
                 exact norm_ (by simp only [putAll, Act.put, List.setIfInBounds_toArray, List.set_cons_zero, List.set_cons_succ]) (hCont (v346, gb351) _ ⟨hHeld, (Kd.R_mono (rk HL344_5) (fun _ hk => hk.2)), (Kd.R_mono (rk HL344_6) (fun _ hk => hk.2)), (Kd.S_mono (sk HO347) (fun _ hk => ⟨hk.1.2, ⟨hk.2, hk.1.1.2⟩⟩)), (Kd.S_mono (sk HO_5) (fun _ hk => hk.2)), (bk BK351), GW351.out, GE351.out, (bs HB (by simp [ag, GE351.out]))⟩)
                ·skip
                 refine box_step ?hg (N := 12) ?hd (cs := #[.int .i64 0, .int .i64 0]) (t := 24) ?hr ?_; (case hd => rfl); (case hg => rfl); (case hr => first | (go_simp; done) | (go_simp; rfl))
                 intro gb351 hg w33 hbox hb
                 have HS1_ := (hb.cell (World.block_lt_of_cell? _ _ (hHeld.2.1))).trans (hHeld.2.1)
                 have HS2_ := (hb.cell (World.block_lt_of_cell? _ _ (hHeld.2.2.1))).trans (hHeld.2.2.1)
                 have HS3_ := (hb.cell (World.block_lt_of_cell? _ _ (hHeld.2.2.2.1))).trans (hHeld.2.2.2.1)
                 have HS4_ := (hb.cell (World.block_lt_of_cell? _ _ (hHeld.2.2.2.2.1))).trans (hHeld.2.2.2.2.1)
                 have HS5_ := (hb.cell (World.block_lt_of_cell? _ _ (hHeld.2.2.2.2.2.1))).trans (hHeld.2.2.2.2.2.1)
                 have HS6_ := (hb.cell (World.block_lt_of_cell? _ _ (hHeld.2.2.2.2.2.2.1))).trans (hHeld.2.2.2.2.2.2.1)
                 have HS7_ := (hb.cell (World.block_lt_of_cell? _ _ (hHeld.2.2.2.2.2.2.2))).trans (hHeld.2.2.2.2.2.2.2)
                 have n0_ := Aside0.mk (Kd.S_below (sk HO_5) hb)
                 have n1_ := Aside0.mk (Kd.R_below (rk HL344_5) hb)
                 have n2_ := Aside0.mk (Kd.R_below (rk HL344_6) hb)
                 have n3_ := Aside0.mk (Kd.C_below (by repeat (first | (with_reducible exact HR344_5.out) | (with_reducible refine Kd.C_alloc ?_ _) | (with_reducible refine Kd.C_drewN ?_ _) | (with_reducible refine Kd.C_drew ?_) | exact HR344_5.out)) hb)
                 have n4_ := Aside0.mk (Kd.C_below (by repeat (first | (with_reducible exact HR344_6.out) | (with_reducible refine Kd.C_alloc ?_ _) | (with_reducible refine Kd.C_drewN ?_ _) | (with_reducible refine Kd.C_drew ?_) | exact HR344_6.out)) hb)
                 have n5_ := Aside0.mk (below_step (bl HB) hb)
                 have n6_ := Aside0.mk (hbox)
                 have n7_ := gs HB hg
                 have n8_ := gs HB hg
                 clear HO_5
                 clear HL344_5
                 clear HL344_6
                 clear HR344_5
                 clear HR344_6
                 clear HB
                 have HO_5 := n0_
                 have HL344_5 := n1_
                 have HL344_6 := n2_
                 have HR344_5 := n3_
                 have HR344_6 := n4_
                 have HB := n5_
                 have BK351 := n6_
                 have GW351 := n7_
                 have GE351 := n8_
                 clear n0_ n1_ n2_ n3_ n4_ n5_ n6_ n7_ n8_
                 clear hb hbox hg
                 refine hK.out _ _ ⟨(pw_cell_below HB.out hw343_0), HS1_, HS2_, HS3_, HS4_, HS5_, HS6_, HS7_⟩ (fun hHeld => ?_)
                 clear hK K
                 refine norm_ (a' := ?_) ?_ ?_
                 rotate_left
                 ·show Act.put _ (some 12) _ = _
                  simp only [Act.put, List.setIfInBounds_toArray, List.set_cons_zero, List.set_cons_succ, i64_w, i32_w]
                  rfl
                 refine one_ (i := 14) (N := some 78) #[true, true, true, true, true, true, true, true, true, true, true, true, true, true, true, false, false, false, false, true, false, false, false] rfl rfl (one_of HT_.out (by kernel_rfl)) (by decide) (fun K hK => ?_)
                 refine goes_ Try.func14 (by kernel_rfl) rfl #[.slice (some ad344) x5_2.length co31, .agg #[.int .i64 ji25, .int .i64 (Int.tmod (wrap64 (rd l1 x9_2)) ((rd_T42 x5_2 (ji25)).f1))]] (by rfl) rfl rfl (by (try simp only [List.map_toArray, List.map_cons, List.map_nil]); first | done | (simp only [hji25]; rfl) | rfl | (simp only [List.length_drop, List.length_take]; rfl)) ?_
                 with_reducible refine (selvedgeref18_Take.calls _ _ x5_2 ji25 (Int.tmod (wrap64 (rd l1 x9_2)) ((rd_T42 x5_2 (ji25)).f1)) t345 t348 t349 t350 _ ?side1 ?side2 A29.out).mono ?_
                 (case side1 => repeat (first | exact (Kd.S_reads' HO_5.out).2.2 | (with_reducible refine Kd.C_alloc ?_ _) | (with_reducible refine Kd.C_drewN ?_ _) | (with_reducible refine Kd.C_drew ?_)))
                 (case side2 => exact (Kd.S_reads' HO_5.out).2.1)
                 rintro e w34 ⟨v346, rfl, ho0, hb⟩
                 have HS1_ := (hb.cell (World.block_lt_of_cell? _ _ (hHeld.2.1))).trans (hHeld.2.1)
                 have HS2_ := (hb.cell (World.block_lt_of_cell? _ _ (hHeld.2.2.1))).trans (hHeld.2.2.1)
                 have HS3_ := (hb.cell (World.block_lt_of_cell? _ _ (hHeld.2.2.2.1))).trans (hHeld.2.2.2.1)
                 have HS4_ := (hb.cell (World.block_lt_of_cell? _ _ (hHeld.2.2.2.2.1))).trans (hHeld.2.2.2.2.1)
                 have HS5_ := (hb.cell (World.block_lt_of_cell? _ _ (hHeld.2.2.2.2.2.1))).trans (hHeld.2.2.2.2.2.1)
                 have HS6_ := (hb.cell (World.block_lt_of_cell? _ _ (hHeld.2.2.2.2.2.2.1))).trans (hHeld.2.2.2.2.2.2.1)
                 have HS7_ := (hb.cell (World.block_lt_of_cell? _ _ (hHeld.2.2.2.2.2.2.2))).trans (hHeld.2.2.2.2.2.2.2)
                 refine ⟨_, rfl, ?_⟩
                 have hone_v346 := Kd.S_one ho0
                 have n0_ := Aside0.mk (Kd.S_elder' (sk HO_5) (Kd.S_base ho0) hb)
                 have n1_ := Aside0.mk (Kd.R_below (rk HL344_5) hb)
                 have n2_ := Aside0.mk (Kd.R_below (rk HL344_6) hb)
                 have n3_ := Aside0.mk (Kd.S_lower (Kd.S_new' (Kd.S_new' (Kd.S_new' ho0 (Kd.S_lt (sk HO_5))) (Kd.R_lt (rk HL344_5))) (Kd.R_lt (rk HL344_6))) (below_size (bs HB (by simp [ag, GE351.out]))))
                 have n4_ := Aside0.mk (Kd.C_below (by repeat (first | (with_reducible exact HR344_5.out) | (with_reducible refine Kd.C_alloc ?_ _) | (with_reducible refine Kd.C_drewN ?_ _) | (with_reducible refine Kd.C_drew ?_) | exact HR344_5.out)) hb)
                 have n5_ := Aside0.mk (Kd.C_below (by repeat (first | (with_reducible exact HR344_6.out) | (with_reducible refine Kd.C_alloc ?_ _) | (with_reducible refine Kd.C_drewN ?_ _) | (with_reducible refine Kd.C_drew ?_) | exact HR344_6.out)) hb)
                 have n6_ := Aside0.mk (bb BK351 hb)
                 have n7_ := Aside0.mk (below_step (bs HB (by simp [ag, GE351.out])) hb)
                 clear HO_5
                 clear HL344_5
                 clear HL344_6
                 clear HR344_5
                 clear HR344_6
                 clear BK351
                 clear HB
                 have HO_5 := n0_
                 have HL344_5 := n1_
                 have HL344_6 := n2_
                 have HO347 := n3_
                 have HR344_5 := n4_
                 have HR344_6 := n5_
                 have BK351 := n6_
                 have HB := n7_
                 clear n0_ n1_ n2_ n3_ n4_ n5_ n6_ n7_
                 (try clear hb)
                 (try clear hb2)
                 (try clear hk)
                 (try clear hi)
                 (try clear ho0)
                 refine hK.out _ _ ⟨(pw_cell_below HB.out hw343_0), HS1_, HS2_, HS3_, HS4_, HS5_, HS6_, HS7_⟩ (fun hHeld => ?_)
                 clear hK K
                 refine norm_ (a' := ?_) ?_ ?_
                 rotate_left
                 ·show Act.put _ (some 78) _ = _
                  simp only [Act.put, List.setIfInBounds_toArray, List.set_cons_zero, List.set_cons_succ, i64_w, i32_w]
                  rfl
                 refine pure_ (i := 15) (N := some 63) (v := ?_) (a' := ?_) #[true, true, true, true, true, true, true, true, true, true, true, true, true, true, true, true, false, false, false, true, false, false, false] rfl rfl (any_of HT_.out (by kernel_rfl)) (fun _ _ _ h => h) (Or.inl ⟨by rfl, ?_⟩) ?_ ?_
                 rotate_left
                 ·intro w'
                  go_simp
                  with_reducible rfl
                 rotate_left
                 ·simp only [Act.put, List.setIfInBounds_toArray, List.set_cons_zero, List.set_cons_succ, i64_w, i32_w]
                  rfl
                 refine pure_ (i := 16) (N := some 79) (v := ?_) (a' := ?_) #[true, true, true, true, true, true, true, true, true, true, true, true, true, true, true, true, true, false, false, true, false, false, false] rfl rfl (any_of HT_.out (by kernel_rfl)) (fun _ _ _ h => h) (Or.inl ⟨by rfl, ?_⟩) ?_ ?_
                 rotate_left
                 ·intro w'
                  go_simp
                  with_reducible rfl
                 rotate_left
                 ·simp only [Act.put, List.setIfInBounds_toArray, List.set_cons_zero, List.set_cons_succ, i64_w, i32_w]
                  rfl
                 refine pure_ (i := 17) (N := some 80) (v := ?_) (a' := ?_) #[true, true, true, true, true, true, true, true, true, true, true, true, true, true, true, true, true, true, false, true, false, false, false] rfl rfl (any_of HT_.out (by kernel_rfl)) (fun _ _ _ h => h) (Or.inl ⟨by rfl, ?_⟩) ?_ ?_
                 rotate_left
                 ·intro w'
                  go_simp
                  with_reducible rfl
                 rotate_left
                 ·simp only [Act.put, List.setIfInBounds_toArray, List.set_cons_zero, List.set_cons_succ, i64_w, i32_w]
                  rfl
                 refine pure_ (i := 18) (N := some 81) (v := ?_) (a' := ?_) #[true, true, true, true, true, true, true, true, true, true, true, true, true, true, true, true, true, true, true, true, false, false, false] rfl rfl (any_of HT_.out (by kernel_rfl)) (fun _ _ _ h => h) (Or.inl ⟨by rfl, ?_⟩) ?_ ?_
                 rotate_left
                 ·intro w'
                  go_simp
                  with_reducible rfl
                 rotate_left
                 ·simp only [Act.put, List.setIfInBounds_toArray, List.set_cons_zero, List.set_cons_succ, i64_w, i32_w]
                  rfl
                 exact norm_ (by simp only [putAll, Act.put, List.setIfInBounds_toArray, List.set_cons_zero, List.set_cons_succ]) (hCont (v346, gb351) _ ⟨hHeld, (Kd.R_mono (rk HL344_5) (fun _ hk => hk.2)), (Kd.R_mono (rk HL344_6) (fun _ hk => hk.2)), (Kd.S_mono (sk HO347) (fun _ hk => ⟨hk.1.2, ⟨hk.2, hk.1.1.2⟩⟩)), (Kd.S_mono (sk HO_5) (fun _ hk => hk.2)), (bk BK351), GW351.out, GE351.out, (bs HB (by simp [ag, GE351.out]))⟩)
               rintro ⟨v346, gb351⟩ w35 ⟨hS_, h0_, h1_, h2_, h3_, h4_, h5_, h6_, h7_⟩
               have n0_ : Aside0 (Kd.R (Kd.int .i64) 3 w35 w.heap.size (fun k_ => some k_ ≠ (.slice (some ad344) x5_2.length co31 : Value).ownBlock) (.slice A344_5 ((rd_T42 x5_2 (ji25)).f5).length c344_5) ((rd_T42 x5_2 (ji25)).f5)) := ⟨h0_⟩
               have n1_ : Aside0 (Kd.R (Kd.int .i64) 3 w35 w.heap.size (fun k_ => some k_ ≠ (.slice (some ad344) x5_2.length co31 : Value).ownBlock) (.slice A344_6 ((rd_T42 x5_2 (ji25)).f6).length c344_6) ((rd_T42 x5_2 (ji25)).f6)) := ⟨h1_⟩
               have n2_ : Aside0 (Kd.S k42 42 w35 w.heap.size (fun k_ => some k_ ≠ (.slice A344_5 ((rd_T42 x5_2 (ji25)).f5).length c344_5 : Value).ownBlock ∧ some k_ ≠ (.slice A344_6 ((rd_T42 x5_2 (ji25)).f6).length c344_6 : Value).ownBlock ∧ some k_ ≠ (.slice (some ad344) x5_2.length co31 : Value).ownBlock) v346 t345) := ⟨h2_⟩
               have n3_ : Aside0 (Kd.S k42 42 w35 w.heap.size (fun k_ => some k_ ≠ (v346 : Value).ownBlock) (.slice (some ad344) x5_2.length co31) x5_2) := ⟨h3_⟩
               have n4_ : Aside0 (w35.heap[gb351]? = some (.cells #[.int .i64 0, .int .i64 0] 24 (0, 0))) := ⟨h4_⟩
               have n5_ : Aside0 (w.heap.size ≤ gb351) := ⟨h5_⟩
               have n6_ : Aside0 (w.heap.size ≤ gb351) := ⟨h6_⟩
               have n7_ : Aside0 (Below w.heap.size w w35) := ⟨h7_⟩
               clear HO_5
               clear HB
               clear h0_ h1_ h2_ h3_ h4_ h5_ h6_ h7_
               have HL344_5 := n0_
               have HL344_6 := n1_
               have HO347 := n2_
               have HO_5 := n3_
               have BK351 := n4_
               have GW351 := n5_
               have GE351 := n6_
               have HB := n7_
               clear n0_ n1_ n2_ n3_ n4_ n5_ n6_ n7_
               have hHeld : w35.cell? (ad342.add (x9_2).toNat) = some (.int .u8 (rd l1 x9_2)) ∧ w35.cell? (ad344.add (((ji25)).toNat * 7)) = some (.int .i64 ((rd_T42 x5_2 (ji25)).f0)) ∧ w35.cell? ⟨(ad344.add (((ji25)).toNat * 7)).block, (ad344.add (((ji25)).toNat * 7)).off + 1, none⟩ = some (.int .i64 ((rd_T42 x5_2 (ji25)).f1)) ∧ w35.cell? ⟨(ad344.add (((ji25)).toNat * 7)).block, (ad344.add (((ji25)).toNat * 7)).off + 2, none⟩ = some (.int .i64 ((rd_T42 x5_2 (ji25)).f2)) ∧ w35.cell? ⟨(ad344.add (((ji25)).toNat * 7)).block, (ad344.add (((ji25)).toNat * 7)).off + 3, none⟩ = some (.int .i64 ((rd_T42 x5_2 (ji25)).f3)) ∧ w35.cell? ⟨(ad344.add (((ji25)).toNat * 7)).block, (ad344.add (((ji25)).toNat * 7)).off + 4, none⟩ = some (.int .i64 ((rd_T42 x5_2 (ji25)).f4)) ∧ w35.cell? ⟨(ad344.add (((ji25)).toNat * 7)).block, (ad344.add (((ji25)).toNat * 7)).off + 5, none⟩ = some (.slice A344_5 ((rd_T42 x5_2 (ji25)).f5).length c344_5) ∧ w35.cell? ⟨(ad344.add (((ji25)).toNat * 7)).block, (ad344.add (((ji25)).toNat * 7)).off + 6, none⟩ = some (.slice A344_6 ((rd_T42 x5_2 (ji25)).f6).length c344_6) := hS_
               refine norm_ (a' := ?_) ?_ ?_
               rotate_left
               ·simp only [putAll, Act.put, List.setIfInBounds_toArray, List.set_cons_zero, List.set_cons_succ]
                rfl
               refine pure_ (i := 20) (N := some 11) (v := ?_) (a' := ?_) #[true, true, true, true, true, true, true, true, true, true, true, true, true, true, true, true, true, true, true, true, true, false, false] rfl rfl (any_of HT_.out (by kernel_rfl)) (fun _ _ _ h => h) (Or.inl ⟨by rfl, ?_⟩) ?_ ?_
               rotate_left
               ·intro w'
                go_simp
                with_reducible rfl
               rotate_left
               ·simp only [Act.put, List.setIfInBounds_toArray, List.set_cons_zero, List.set_cons_succ, i64_w, i32_w]
                rfl
               refine one_ (i := 21) (N := none) #[true, true, true, true, true, true, true, true, true, true, true, true, true, true, true, true, true, true, true, true, true, true, false] rfl rfl (one_of HT_.out (by kernel_rfl)) (by decide) (fun K hK => ?_)
               have hs36 : w35.cell? ⟨gb351, 0, none⟩ = some (.int .i64 0) := (blk_cell BK351.out 0).trans rfl
               have hfs36 := blk_frozen BK351.out 0
               have hs37 : w35.cell? ⟨gb351, 1, none⟩ = some (.int .i64 0) := (blk_cell BK351.out 1).trans rfl
               have hfs37 := blk_frozen BK351.out 1
               refine skip_ (w1 := ?_) (by rfl) rfl ?_ ?_
               rotate_left
               ·go_simp
                rfl
               refine hK.out _ _ ⟨((cell_far (p := ⟨gb351, _, none⟩) (by first | exact Nat.ne_of_lt (Nat.lt_of_lt_of_le (by have := World.block_lt_of_cell? _ _ hw343_0; first | rwa [add_block] at this | exact this) GW351.out) | (rw [add_block]; exact Nat.ne_of_lt (Nat.lt_of_lt_of_le (by have := World.block_lt_of_cell? _ _ hw343_0; first | rwa [add_block] at this | exact this) GW351.out)) | (show (Addr.add _ _).block ≠ _; rw [add_block]; exact Nat.ne_of_lt (Nat.lt_of_lt_of_le (by have := World.block_lt_of_cell? _ _ hw343_0; first | rwa [add_block] at this | exact this) GW351.out)) | (dsimp only; exact Nat.ne_of_lt (Nat.lt_of_lt_of_le (by have := World.block_lt_of_cell? _ _ hw343_0; first | rwa [add_block] at this | exact this) GW351.out))) _).trans (((cell_far (p := ⟨gb351, _, none⟩) (by first | exact Nat.ne_of_lt (Nat.lt_of_lt_of_le (by have := World.block_lt_of_cell? _ _ hw343_0; first | rwa [add_block] at this | exact this) GW351.out) | (rw [add_block]; exact Nat.ne_of_lt (Nat.lt_of_lt_of_le (by have := World.block_lt_of_cell? _ _ hw343_0; first | rwa [add_block] at this | exact this) GW351.out)) | (show (Addr.add _ _).block ≠ _; rw [add_block]; exact Nat.ne_of_lt (Nat.lt_of_lt_of_le (by have := World.block_lt_of_cell? _ _ hw343_0; first | rwa [add_block] at this | exact this) GW351.out)) | (dsimp only; exact Nat.ne_of_lt (Nat.lt_of_lt_of_le (by have := World.block_lt_of_cell? _ _ hw343_0; first | rwa [add_block] at this | exact this) GW351.out))) _).trans (hHeld.1)))), ((cell_far (p := ⟨gb351, _, none⟩) (by first | exact Kd.own_blk (Kd.S_ne HO_5.out BK351.out (by decide)) | (rw [add_block]; exact Kd.own_blk (Kd.S_ne HO_5.out BK351.out (by decide))) | (show (Addr.add _ _).block ≠ _; rw [add_block]; exact Kd.own_blk (Kd.S_ne HO_5.out BK351.out (by decide))) | (dsimp only; exact Kd.own_blk (Kd.S_ne HO_5.out BK351.out (by decide)))) _).trans (((cell_far (p := ⟨gb351, _, none⟩) (by first | exact Kd.own_blk (Kd.S_ne HO_5.out BK351.out (by decide)) | (rw [add_block]; exact Kd.own_blk (Kd.S_ne HO_5.out BK351.out (by decide))) | (show (Addr.add _ _).block ≠ _; rw [add_block]; exact Kd.own_blk (Kd.S_ne HO_5.out BK351.out (by decide))) | (dsimp only; exact Kd.own_blk (Kd.S_ne HO_5.out BK351.out (by decide)))) _).trans (hHeld.2.1)))), ((cell_far (p := ⟨gb351, _, none⟩) (by first | exact Kd.own_blk (Kd.S_ne HO_5.out BK351.out (by decide)) | (rw [add_block]; exact Kd.own_blk (Kd.S_ne HO_5.out BK351.out (by decide))) | (show (Addr.add _ _).block ≠ _; rw [add_block]; exact Kd.own_blk (Kd.S_ne HO_5.out BK351.out (by decide))) | (dsimp only; exact Kd.own_blk (Kd.S_ne HO_5.out BK351.out (by decide)))) _).trans (((cell_far (p := ⟨gb351, _, none⟩) (by first | exact Kd.own_blk (Kd.S_ne HO_5.out BK351.out (by decide)) | (rw [add_block]; exact Kd.own_blk (Kd.S_ne HO_5.out BK351.out (by decide))) | (show (Addr.add _ _).block ≠ _; rw [add_block]; exact Kd.own_blk (Kd.S_ne HO_5.out BK351.out (by decide))) | (dsimp only; exact Kd.own_blk (Kd.S_ne HO_5.out BK351.out (by decide)))) _).trans (hHeld.2.2.1)))), ((cell_far (p := ⟨gb351, _, none⟩) (by first | exact Kd.own_blk (Kd.S_ne HO_5.out BK351.out (by decide)) | (rw [add_block]; exact Kd.own_blk (Kd.S_ne HO_5.out BK351.out (by decide))) | (show (Addr.add _ _).block ≠ _; rw [add_block]; exact Kd.own_blk (Kd.S_ne HO_5.out BK351.out (by decide))) | (dsimp only; exact Kd.own_blk (Kd.S_ne HO_5.out BK351.out (by decide)))) _).trans (((cell_far (p := ⟨gb351, _, none⟩) (by first | exact Kd.own_blk (Kd.S_ne HO_5.out BK351.out (by decide)) | (rw [add_block]; exact Kd.own_blk (Kd.S_ne HO_5.out BK351.out (by decide))) | (show (Addr.add _ _).block ≠ _; rw [add_block]; exact Kd.own_blk (Kd.S_ne HO_5.out BK351.out (by decide))) | (dsimp only; exact Kd.own_blk (Kd.S_ne HO_5.out BK351.out (by decide)))) _).trans (hHeld.2.2.2.1)))), ((cell_far (p := ⟨gb351, _, none⟩) (by first | exact Kd.own_blk (Kd.S_ne HO_5.out BK351.out (by decide)) | (rw [add_block]; exact Kd.own_blk (Kd.S_ne HO_5.out BK351.out (by decide))) | (show (Addr.add _ _).block ≠ _; rw [add_block]; exact Kd.own_blk (Kd.S_ne HO_5.out BK351.out (by decide))) | (dsimp only; exact Kd.own_blk (Kd.S_ne HO_5.out BK351.out (by decide)))) _).trans (((cell_far (p := ⟨gb351, _, none⟩) (by first | exact Kd.own_blk (Kd.S_ne HO_5.out BK351.out (by decide)) | (rw [add_block]; exact Kd.own_blk (Kd.S_ne HO_5.out BK351.out (by decide))) | (show (Addr.add _ _).block ≠ _; rw [add_block]; exact Kd.own_blk (Kd.S_ne HO_5.out BK351.out (by decide))) | (dsimp only; exact Kd.own_blk (Kd.S_ne HO_5.out BK351.out (by decide)))) _).trans (hHeld.2.2.2.2.1)))), ((cell_far (p := ⟨gb351, _, none⟩) (by first | exact Kd.own_blk (Kd.S_ne HO_5.out BK351.out (by decide)) | (rw [add_block]; exact Kd.own_blk (Kd.S_ne HO_5.out BK351.out (by decide))) | (show (Addr.add _ _).block ≠ _; rw [add_block]; exact Kd.own_blk (Kd.S_ne HO_5.out BK351.out (by decide))) | (dsimp only; exact Kd.own_blk (Kd.S_ne HO_5.out BK351.out (by decide)))) _).trans (((cell_far (p := ⟨gb351, _, none⟩) (by first | exact Kd.own_blk (Kd.S_ne HO_5.out BK351.out (by decide)) | (rw [add_block]; exact Kd.own_blk (Kd.S_ne HO_5.out BK351.out (by decide))) | (show (Addr.add _ _).block ≠ _; rw [add_block]; exact Kd.own_blk (Kd.S_ne HO_5.out BK351.out (by decide))) | (dsimp only; exact Kd.own_blk (Kd.S_ne HO_5.out BK351.out (by decide)))) _).trans (hHeld.2.2.2.2.2.1)))), ((cell_far (p := ⟨gb351, _, none⟩) (by first | exact Kd.own_blk (Kd.S_ne HO_5.out BK351.out (by decide)) | (rw [add_block]; exact Kd.own_blk (Kd.S_ne HO_5.out BK351.out (by decide))) | (show (Addr.add _ _).block ≠ _; rw [add_block]; exact Kd.own_blk (Kd.S_ne HO_5.out BK351.out (by decide))) | (dsimp only; exact Kd.own_blk (Kd.S_ne HO_5.out BK351.out (by decide)))) _).trans (((cell_far (p := ⟨gb351, _, none⟩) (by first | exact Kd.own_blk (Kd.S_ne HO_5.out BK351.out (by decide)) | (rw [add_block]; exact Kd.own_blk (Kd.S_ne HO_5.out BK351.out (by decide))) | (show (Addr.add _ _).block ≠ _; rw [add_block]; exact Kd.own_blk (Kd.S_ne HO_5.out BK351.out (by decide))) | (dsimp only; exact Kd.own_blk (Kd.S_ne HO_5.out BK351.out (by decide)))) _).trans (hHeld.2.2.2.2.2.2.1)))), ((cell_far (p := ⟨gb351, _, none⟩) (by first | exact Kd.own_blk (Kd.S_ne HO_5.out BK351.out (by decide)) | (rw [add_block]; exact Kd.own_blk (Kd.S_ne HO_5.out BK351.out (by decide))) | (show (Addr.add _ _).block ≠ _; rw [add_block]; exact Kd.own_blk (Kd.S_ne HO_5.out BK351.out (by decide))) | (dsimp only; exact Kd.own_blk (Kd.S_ne HO_5.out BK351.out (by decide)))) _).trans (((cell_far (p := ⟨gb351, _, none⟩) (by first | exact Kd.own_blk (Kd.S_ne HO_5.out BK351.out (by decide)) | (rw [add_block]; exact Kd.own_blk (Kd.S_ne HO_5.out BK351.out (by decide))) | (show (Addr.add _ _).block ≠ _; rw [add_block]; exact Kd.own_blk (Kd.S_ne HO_5.out BK351.out (by decide))) | (dsimp only; exact Kd.own_blk (Kd.S_ne HO_5.out BK351.out (by decide)))) _).trans (hHeld.2.2.2.2.2.2.2))))⟩ (fun hHeld => ?_)
               clear hK K
               refine pure_ (i := 22) (N := some 13) (v := ?_) (a' := ?_) #[true, true, true, true, true, true, true, true, true, true, true, true, true, true, true, true, true, true, true, true, true, true, true] rfl rfl (any_of HT_.out (by kernel_rfl)) (fun _ _ _ h => h) (Or.inl ⟨by rfl, ?_⟩) ?_ ?_
               rotate_left
               ·intro w'
                go_simp
                with_reducible rfl
               rotate_left
               ·simp only [Act.put, List.setIfInBounds_toArray, List.set_cons_zero, List.set_cons_succ, i64_w, i32_w]
                rfl
               refine done_ (done_of HT_.out (by kernel_rfl)) ?_
               try go_wp2
               go_roundg kj16
               case measure => have := HJ2.out; have := HK2.out; have := HJ16.out; omega
               case rel => exact ⟨(t345), (wrap64 (x9_2 + 1)), (by first | rfl | (simp; done) | (simp [*]; done)), H', ⟨by have := HJ2.out; have := HK2.out; have := HJ16.out; omega⟩, ⟨by (with_reducible repeat (first | apply Kd.S_alloc | apply Kd.S_drewN | apply Kd.S_drew)); exact Kd.S_mono (Kd.S_far (p := ⟨gb351, 1, none⟩) (Kd.S_far (p := ⟨gb351, 0, none⟩) (Kd.S_types HO347.out BK351.out (by decide)) (fun _ hk => hk.2) (.int .i64 t348)) (fun _ hk => hk.2) (.int .i64 t349)) (fun _ hk => trivial)⟩, ⟨bs HB (by simp [ag, GE351.out])⟩⟩
              ·rw [if_neg c30] at H
               have c30b0 : (t350 == 0) = false := beq_eq_false_iff_ne.mpr c30
               have c30b1 : (t350 != 0) = true := bne_iff_ne.mpr c30
               have H' := Aside0.mk H
               clear H
               have p342 : 0 ≤ (x9_2 : Int) := of_decide_eq_true (by assumption)
               have q342 : x9_2 < (l1.length : Int) := of_decide_eq_true (by assumption)
               obtain ⟨ad342, e342, hx342_0⟩ := Kd.at_int HR1.out x9_2 p342 q342
               cases e342
               replace hx342_0 := pw_cell_below HB.out hx342_0
               replace p342 := eq_true p342
               replace q342 := eq_true q342
               obtain ⟨Ao38, co38, eo38⟩ := Kd.S_slice HO_5.out
               subst eo38
               try go_wp2
               have n0_ := Aside0.mk (Kd.S_drew HO_5.out)
               have n1_ := Aside0.mk (below_drew1 HB.out)
               clear HO_5
               clear HB
               have HO_5 := n0_
               have HB := n1_
               clear n0_ n1_
               have p343 : 0 ≤ (x9_2 : Int) := of_decide_eq_true (by assumption)
               have q343 : x9_2 < (l1.length : Int) := of_decide_eq_true (by assumption)
               obtain ⟨ad343, e343, hx343_0⟩ := Kd.at_int HR1.out x9_2 p343 q343
               have hw343_0 := hx343_0
               obtain rfl : ad342 = ad343 := (by injection e343)
               replace hx343_0 := pw_cell_below HB.out hx343_0
               replace p343 := eq_true p343
               replace q343 := eq_true q343
               have p344 : 0 ≤ ((ji25) : Int) := of_decide_eq_true (by assumption)
               have q344 : (ji25) < (x5_2.length : Int) := of_decide_eq_true (by assumption)
               obtain ⟨ad344, A344_5, c344_5, A344_6, c344_6, e344, hx344_0, hx344_1, hx344_2, hx344_3, hx344_4, hx344_5, hx344_6, hl344_5, hi344_5, hl344_6, hi344_6⟩ := at_T42 (Kd.S_reads' HO_5.out).2.2 (ji25) p344 q344
               cases e344
               obtain ⟨ce344, hce344, hMe344, hcc344⟩ := Kd.S_get HO_5.out z42 (ji25) p344 (by first | exact q344 | exact of_decide_eq_true (by assumption) | (have e_ := (Kd.S_reads' HO_5.out).1; omega))
               obtain ⟨ve344_5, ve344_6, rfl, ge344_5, ge344_6⟩ := k42_openM hMe344
               have hv344_5 := hcc344 5 _ rfl
               rw [add_field _ _ 5 (by omega)] at hv344_5
               replace hv344_5 := Option.some.inj (hv344_5.symm.trans hx344_5)
               rw [hv344_5] at ge344_5
               have HL344_5 := Aside0.mk (show Kd.R (Kd.int .i64) 3 _ _ _ _ ((rd_T42 x5_2 (ji25)).f5) from ge344_5)
               clear hv344_5 ge344_5
               have hv344_6 := hcc344 6 _ rfl
               rw [add_field _ _ 6 (by omega)] at hv344_6
               replace hv344_6 := Option.some.inj (hv344_6.symm.trans hx344_6)
               rw [hv344_6] at ge344_6
               have HL344_6 := Aside0.mk (show Kd.R (Kd.int .i64) 3 _ _ _ _ ((rd_T42 x5_2 (ji25)).f6) from ge344_6)
               clear hv344_6 ge344_6
               clear hcc344 hce344
               have HR344_5 := Aside0.mk hi344_5
               have HC344_5 := Aside0.mk hl344_5
               clear hi344_5 hl344_5
               have HR344_6 := Aside0.mk hi344_6
               have HC344_6 := Aside0.mk hl344_6
               clear hi344_6 hl344_6
               replace p344 := eq_true p344
               replace q344 := eq_true q344
               refine start_ (n := 23) (S := fun w' => w'.cell? (ad342.add (x9_2).toNat) = some (.int .u8 (rd l1 x9_2)) ∧ w'.cell? (ad344.add (((ji25)).toNat * 7)) = some (.int .i64 ((rd_T42 x5_2 (ji25)).f0)) ∧ w'.cell? ⟨(ad344.add (((ji25)).toNat * 7)).block, (ad344.add (((ji25)).toNat * 7)).off + 1, none⟩ = some (.int .i64 ((rd_T42 x5_2 (ji25)).f1)) ∧ w'.cell? ⟨(ad344.add (((ji25)).toNat * 7)).block, (ad344.add (((ji25)).toNat * 7)).off + 2, none⟩ = some (.int .i64 ((rd_T42 x5_2 (ji25)).f2)) ∧ w'.cell? ⟨(ad344.add (((ji25)).toNat * 7)).block, (ad344.add (((ji25)).toNat * 7)).off + 3, none⟩ = some (.int .i64 ((rd_T42 x5_2 (ji25)).f3)) ∧ w'.cell? ⟨(ad344.add (((ji25)).toNat * 7)).block, (ad344.add (((ji25)).toNat * 7)).off + 4, none⟩ = some (.int .i64 ((rd_T42 x5_2 (ji25)).f4)) ∧ w'.cell? ⟨(ad344.add (((ji25)).toNat * 7)).block, (ad344.add (((ji25)).toNat * 7)).off + 5, none⟩ = some (.slice A344_5 ((rd_T42 x5_2 (ji25)).f5).length c344_5) ∧ w'.cell? ⟨(ad344.add (((ji25)).toNat * 7)).block, (ad344.add (((ji25)).toNat * 7)).off + 6, none⟩ = some (.slice A344_6 ((rd_T42 x5_2 (ji25)).f6).length c344_6)) (ds := []) #[false, false, false, false, false, false, false, false, false, false, false, false, false, false, false, false, false, false, false, false, false, false, false] (by kernel_rfl) rfl rfl ⟨(pw_cell_below HB.out hw343_0), hx344_0, hx344_1, hx344_2, hx344_3, hx344_4, hx344_5, hx344_6⟩ (fun hHeld => ?_); refine with_tabW selvedgelaw18_made.tab11 selvedgelaw18_made.bits11 (fun HT_ HW_ => ?_)
               generalize wc.drew = w39 at HO_5 HB HL344_5 HL344_6 HR344_5 HR344_6 hx343_0 hx344_0 hx344_1 hx344_2 hx344_3 hx344_4 hx344_5 hx344_6 hHeld ⊢
               refine pure_ (i := 0) (N := some 64) (v := ?_) (a' := ?_) #[true, false, false, false, false, false, false, false, false, false, false, false, false, false, false, false, false, false, false, false, false, false, false] rfl rfl (any_of HT_.out (by kernel_rfl)) (fun _ _ _ h => h) (Or.inl ⟨by rfl, ?_⟩) ?_ ?_
               rotate_left
               ·intro w'
                go_simp
                with_reducible rfl
               rotate_left
               ·simp only [Act.put, List.setIfInBounds_toArray, List.set_cons_zero, List.set_cons_succ, i64_w, i32_w]
                rfl
               refine pure_ (i := 1) (N := some 65) (v := ?_) (a' := ?_) #[true, true, false, false, false, false, false, false, false, false, false, false, false, false, false, false, false, false, false, false, false, false, false] rfl rfl (any_of HT_.out (by kernel_rfl)) (fun _ _ _ h => h) (Or.inl ⟨by rfl, ?_⟩) ?_ ?_
               rotate_left
               ·intro w'
                go_simp
                with_reducible rfl
               rotate_left
               ·simp only [Act.put, List.setIfInBounds_toArray, List.set_cons_zero, List.set_cons_succ, i64_w, i32_w]
                rfl
               refine pure_ (i := 2) (N := some 66) (v := ?_) (a' := ?_) #[true, true, true, false, false, false, false, false, false, false, false, false, false, false, false, false, false, false, false, false, false, false, false] rfl rfl (any_of HT_.out (by kernel_rfl)) (fun _ _ _ h => h) (Or.inl ⟨by rfl, ?_⟩) ?_ ?_
               rotate_left
               ·intro w'
                go_simp
                with_reducible rfl
               rotate_left
               ·simp only [Act.put, List.setIfInBounds_toArray, List.set_cons_zero, List.set_cons_succ, i64_w, i32_w]
                rfl
               refine pure_ (i := 3) (N := some 67) (v := ?_) (a' := ?_) #[true, true, true, true, false, false, false, false, false, false, false, false, false, false, false, false, false, false, false, false, false, false, false] rfl rfl (any_of HT_.out (by kernel_rfl)) (fun _ _ _ h => h) (Or.inl ⟨by rfl, ?_⟩) ?_ ?_
               rotate_left
               ·intro w'
                go_simp
                with_reducible rfl
               rotate_left
               ·simp only [Act.put, List.setIfInBounds_toArray, List.set_cons_zero, List.set_cons_succ, i64_w, i32_w]
                rfl
               refine pure_ (i := 4) (N := some 68) (v := ?_) (a' := ?_) #[true, true, true, true, true, false, false, false, false, false, false, false, false, false, false, false, false, false, false, false, false, false, false] rfl rfl (any_of HT_.out (by kernel_rfl)) (fun _ _ _ h => h) (Or.inl ⟨by rfl, ?_⟩) ?_ ?_
               rotate_left
               ·intro w'
                go_simp
                with_reducible rfl
               rotate_left
               ·simp only [Act.put, List.setIfInBounds_toArray, List.set_cons_zero, List.set_cons_succ, i64_w, i32_w]
                rfl
               refine pure_ (i := 7) (N := some 71) (v := ?_) (a' := ?_) #[true, true, true, true, true, false, false, true, false, false, false, false, false, false, false, false, false, false, false, false, false, false, false] rfl rfl (any_of HT_.out (by kernel_rfl)) (fun _ _ _ h => h) (Or.inl ⟨by rfl, ?_⟩) ?_ ?_
               rotate_left
               ·intro w'
                go_simp
                with_reducible rfl
               rotate_left
               ·simp only [Act.put, List.setIfInBounds_toArray, List.set_cons_zero, List.set_cons_succ, i64_w, i32_w]
                rfl
               refine pure_ (i := 8) (N := some 72) (v := ?_) (a' := ?_) #[true, true, true, true, true, false, false, true, true, false, false, false, false, false, false, false, false, false, false, false, false, false, false] rfl rfl (any_of HT_.out (by kernel_rfl)) (fun _ _ _ h => h) (Or.inl ⟨by rfl, ?_⟩) ?_ ?_
               rotate_left
               ·intro w'
                go_simp
                with_reducible rfl
               rotate_left
               ·simp only [Act.put, List.setIfInBounds_toArray, List.set_cons_zero, List.set_cons_succ, i64_w, i32_w]
                rfl
               refine pure_ (i := 9) (N := some 73) (v := ?_) (a' := ?_) #[true, true, true, true, true, false, false, true, true, true, false, false, false, false, false, false, false, false, false, false, false, false, false] rfl rfl (any_of HT_.out (by kernel_rfl)) (fun _ _ _ h => h) (Or.inl ⟨by rfl, ?_⟩) ?_ ?_
               rotate_left
               ·intro w'
                go_simp
                with_reducible rfl
               rotate_left
               ·simp only [Act.put, List.setIfInBounds_toArray, List.set_cons_zero, List.set_cons_succ, i64_w, i32_w]
                rfl
               refine pure_ (i := 10) (N := some 74) (v := ?_) (a' := ?_) #[true, true, true, true, true, false, false, true, true, true, true, false, false, false, false, false, false, false, false, false, false, false, false] rfl rfl (any_of HT_.out (by kernel_rfl)) (fun _ _ _ h => h) (Or.inl ⟨by rfl, ?_⟩) ?_ ?_
               rotate_left
               ·intro w'
                go_simp
                with_reducible rfl
               rotate_left
               ·simp only [Act.put, List.setIfInBounds_toArray, List.set_cons_zero, List.set_cons_succ, i64_w, i32_w]
                rfl
               refine take_ (i := 5) (N := some 69) (v := ?_) (a' := ?_) #[true, true, true, true, true, true, false, true, true, true, true, false, false, false, false, false, false, false, false, false, false, false, false] rfl rfl (take_ofW HT_.out HW_.out (by kernel_rfl)) (fun _ _ _ h => h) (Or.inl ⟨by rfl, ?_⟩) hHeld ?_ ?_
               rotate_left
               ·rintro w' ⟨s0, s1, s2, s3, s4, s5, s6, s7⟩
                go_simp
                with_reducible rfl
               rotate_left
               ·simp only [Act.put, List.setIfInBounds_toArray, List.set_cons_zero, List.set_cons_succ, i64_w, i32_w]
                rfl
               refine pure_ (i := 6) (N := some 70) (v := ?_) (a' := ?_) #[true, true, true, true, true, true, true, true, true, true, true, false, false, false, false, false, false, false, false, false, false, false, false] rfl rfl (any_of HT_.out (by kernel_rfl)) (fun _ _ _ h => h) (Or.inl ⟨by rfl, ?_⟩) ?_ ?_
               rotate_left
               ·intro w'
                go_simp
                with_reducible rfl
               rotate_left
               ·simp only [Act.put, List.setIfInBounds_toArray, List.set_cons_zero, List.set_cons_succ, i64_w, i32_w]
                rfl
               refine take_ (i := 11) (N := some 75) (v := ?_) (a' := ?_) #[true, true, true, true, true, true, true, true, true, true, true, true, false, false, false, false, false, false, false, false, false, false, false] rfl rfl (take_ofW HT_.out HW_.out (by kernel_rfl)) (fun _ _ _ h => h) (Or.inl ⟨by rfl, ?_⟩) hHeld ?_ ?_
               rotate_left
               ·rintro w' ⟨s0, s1, s2, s3, s4, s5, s6, s7⟩
                go_simp
                with_reducible rfl
               rotate_left
               ·simp only [Act.put, List.setIfInBounds_toArray, List.set_cons_zero, List.set_cons_succ, i64_w, i32_w]
                rfl
               refine pure_ (i := 12) (N := some 76) (v := ?_) (a' := ?_) #[true, true, true, true, true, true, true, true, true, true, true, true, true, false, false, false, false, false, false, false, false, false, false] rfl rfl (any_of HT_.out (by kernel_rfl)) (fun _ _ _ h => h) (Or.inl ⟨by rfl, ?_⟩) ?_ ?_
               rotate_left
               ·intro w'
                go_simp
                with_reducible rfl
               rotate_left
               ·simp only [Act.put, List.setIfInBounds_toArray, List.set_cons_zero, List.set_cons_succ, i64_w, i32_w]
                rfl
               refine pure_ (i := 13) (N := some 77) (v := ?_) (a' := ?_) #[true, true, true, true, true, true, true, true, true, true, true, true, true, true, false, false, false, false, false, false, false, false, false] rfl rfl (any_of HT_.out (by kernel_rfl)) (fun _ _ _ h => h) (Or.inl ⟨by rfl, ?_⟩) ?_ ?_
               rotate_left
               ·intro w'
                go_simp
                with_reducible rfl
               rotate_left
               ·simp only [Act.put, List.setIfInBounds_toArray, List.set_cons_zero, List.set_cons_succ, i64_w, i32_w]
                rfl
               refine join_ (σ := Value × Nat) 3 #[true, true, true, true, true, true, true, true, true, true, true, true, true, true, true, true, true, true, true, true, false, false, false] (fun s_ => [(78, .tuple #[s_.1, .agg #[.int .i64 t348, .int .i64 t349], .int .i64 t350]), (12, .pointer (some ⟨s_.2, 0, none⟩)), (63, .tuple #[s_.1, .agg #[.int .i64 t348, .int .i64 t349], .int .i64 t350]), (79, s_.1), (80, .agg #[.int .i64 t348, .int .i64 t349]), (81, .int .i64 t350)]) (fun s_ w' => (w'.cell? (ad342.add (x9_2).toNat) = some (.int .u8 (rd l1 x9_2)) ∧ w'.cell? (ad344.add (((ji25)).toNat * 7)) = some (.int .i64 ((rd_T42 x5_2 (ji25)).f0)) ∧ w'.cell? ⟨(ad344.add (((ji25)).toNat * 7)).block, (ad344.add (((ji25)).toNat * 7)).off + 1, none⟩ = some (.int .i64 ((rd_T42 x5_2 (ji25)).f1)) ∧ w'.cell? ⟨(ad344.add (((ji25)).toNat * 7)).block, (ad344.add (((ji25)).toNat * 7)).off + 2, none⟩ = some (.int .i64 ((rd_T42 x5_2 (ji25)).f2)) ∧ w'.cell? ⟨(ad344.add (((ji25)).toNat * 7)).block, (ad344.add (((ji25)).toNat * 7)).off + 3, none⟩ = some (.int .i64 ((rd_T42 x5_2 (ji25)).f3)) ∧ w'.cell? ⟨(ad344.add (((ji25)).toNat * 7)).block, (ad344.add (((ji25)).toNat * 7)).off + 4, none⟩ = some (.int .i64 ((rd_T42 x5_2 (ji25)).f4)) ∧ w'.cell? ⟨(ad344.add (((ji25)).toNat * 7)).block, (ad344.add (((ji25)).toNat * 7)).off + 5, none⟩ = some (.slice A344_5 ((rd_T42 x5_2 (ji25)).f5).length c344_5) ∧ w'.cell? ⟨(ad344.add (((ji25)).toNat * 7)).block, (ad344.add (((ji25)).toNat * 7)).off + 6, none⟩ = some (.slice A344_6 ((rd_T42 x5_2 (ji25)).f6).length c344_6)) ∧ (Kd.R (Kd.int .i64) 3 w' w.heap.size (fun k_ => some k_ ≠ (.slice (some ad344) x5_2.length co38 : Value).ownBlock) (.slice A344_5 ((rd_T42 x5_2 (ji25)).f5).length c344_5) ((rd_T42 x5_2 (ji25)).f5)) ∧ (Kd.R (Kd.int .i64) 3 w' w.heap.size (fun k_ => some k_ ≠ (.slice (some ad344) x5_2.length co38 : Value).ownBlock) (.slice A344_6 ((rd_T42 x5_2 (ji25)).f6).length c344_6) ((rd_T42 x5_2 (ji25)).f6)) ∧ (Kd.S k42 42 w' w.heap.size (fun k_ => some k_ ≠ (.slice A344_5 ((rd_T42 x5_2 (ji25)).f5).length c344_5 : Value).ownBlock ∧ some k_ ≠ (.slice A344_6 ((rd_T42 x5_2 (ji25)).f6).length c344_6 : Value).ownBlock ∧ some k_ ≠ (.slice (some ad344) x5_2.length co38 : Value).ownBlock) s_.1 t345) ∧ (Kd.S k42 42 w' w.heap.size (fun k_ => some k_ ≠ (s_.1 : Value).ownBlock) (.slice (some ad344) x5_2.length co38) x5_2) ∧ (w'.heap[s_.2]? = some (.cells #[.int .i64 0, .int .i64 0] 24 (0, 0))) ∧ (w.heap.size ≤ s_.2) ∧ (w.heap.size ≤ s_.2) ∧ (Below w.heap.size w w')) ?_ ?_
               rotate_left
               ·intro hCont
                refine two_ (i := 14) (j := 19) (Ni := some 78) (Nj := some 12) #[true, true, true, true, true, true, true, true, true, true, true, true, true, true, true, false, false, false, false, false, false, false, false] #[true, true, true, true, true, true, true, true, true, true, true, true, true, true, false, false, false, false, false, true, false, false, false] rfl rfl rfl rfl (two_of HT_.out (by kernel_rfl)) (by decide) (by decide) (fun K hK => ?_) (fun K hK => ?_)
                ·skip
                 refine goes_ Try.func14 (by kernel_rfl) rfl #[.slice (some ad344) x5_2.length co38, .agg #[.int .i64 ji25, .int .i64 (Int.tmod (wrap64 (rd l1 x9_2)) ((rd_T42 x5_2 (ji25)).f1))]] (by rfl) rfl rfl (by (try simp only [List.map_toArray, List.map_cons, List.map_nil]); first | done | (simp only [hji25]; rfl) | rfl | (simp only [List.length_drop, List.length_take]; rfl)) ?_
                 with_reducible refine (selvedgeref18_Take.calls _ _ x5_2 ji25 (Int.tmod (wrap64 (rd l1 x9_2)) ((rd_T42 x5_2 (ji25)).f1)) t345 t348 t349 t350 _ ?side1 ?side2 A29.out).mono ?_
                 (case side1 => repeat (first | exact (Kd.S_reads' HO_5.out).2.2 | (with_reducible refine Kd.C_alloc ?_ _) | (with_reducible refine Kd.C_drewN ?_ _) | (with_reducible refine Kd.C_drew ?_)))
                 (case side2 => exact (Kd.S_reads' HO_5.out).2.1)
                 rintro e w40 ⟨v346, rfl, ho0, hb⟩
                 have HS1_ := (hb.cell (World.block_lt_of_cell? _ _ (hHeld.2.1))).trans (hHeld.2.1)
                 have HS2_ := (hb.cell (World.block_lt_of_cell? _ _ (hHeld.2.2.1))).trans (hHeld.2.2.1)
                 have HS3_ := (hb.cell (World.block_lt_of_cell? _ _ (hHeld.2.2.2.1))).trans (hHeld.2.2.2.1)
                 have HS4_ := (hb.cell (World.block_lt_of_cell? _ _ (hHeld.2.2.2.2.1))).trans (hHeld.2.2.2.2.1)
                 have HS5_ := (hb.cell (World.block_lt_of_cell? _ _ (hHeld.2.2.2.2.2.1))).trans (hHeld.2.2.2.2.2.1)
                 have HS6_ := (hb.cell (World.block_lt_of_cell? _ _ (hHeld.2.2.2.2.2.2.1))).trans (hHeld.2.2.2.2.2.2.1)
                 have HS7_ := (hb.cell (World.block_lt_of_cell? _ _ (hHeld.2.2.2.2.2.2.2))).trans (hHeld.2.2.2.2.2.2.2)
                 refine ⟨_, rfl, ?_⟩
                 have hone_v346 := Kd.S_one ho0
                 have n0_ := Aside0.mk (Kd.S_elder' (sk HO_5) (Kd.S_base ho0) hb)
                 have n1_ := Aside0.mk (Kd.R_below (rk HL344_5) hb)
                 have n2_ := Aside0.mk (Kd.R_below (rk HL344_6) hb)
                 have n3_ := Aside0.mk (Kd.S_lower (Kd.S_new' (Kd.S_new' (Kd.S_new' ho0 (Kd.S_lt (sk HO_5))) (Kd.R_lt (rk HL344_5))) (Kd.R_lt (rk HL344_6))) (below_size (bl HB)))
                 have n4_ := Aside0.mk (Kd.C_below (by repeat (first | (with_reducible exact HR344_5.out) | (with_reducible refine Kd.C_alloc ?_ _) | (with_reducible refine Kd.C_drewN ?_ _) | (with_reducible refine Kd.C_drew ?_) | exact HR344_5.out)) hb)
                 have n5_ := Aside0.mk (Kd.C_below (by repeat (first | (with_reducible exact HR344_6.out) | (with_reducible refine Kd.C_alloc ?_ _) | (with_reducible refine Kd.C_drewN ?_ _) | (with_reducible refine Kd.C_drew ?_) | exact HR344_6.out)) hb)
                 have n6_ := Aside0.mk (below_step (bl HB) hb)
                 clear HO_5
                 clear HL344_5
                 clear HL344_6
                 clear HR344_5
                 clear HR344_6
                 clear HB
                 have HO_5 := n0_
                 have HL344_5 := n1_
                 have HL344_6 := n2_
                 have HO347 := n3_
                 have HR344_5 := n4_
                 have HR344_6 := n5_
                 have HB := n6_
                 clear n0_ n1_ n2_ n3_ n4_ n5_ n6_
                 (try clear hb)
                 (try clear hb2)
                 (try clear hk)
                 (try clear hi)
                 (try clear ho0)
                 refine hK.out _ _ ⟨(pw_cell_below HB.out hw343_0), HS1_, HS2_, HS3_, HS4_, HS5_, HS6_, HS7_⟩ (fun hHeld => ?_)
                 clear hK K
                 refine norm_ (a' := ?_) ?_ ?_
                 rotate_left
                 ·show Act.put _ (some 78) _ = _
                  simp only [Act.put, List.setIfInBounds_toArray, List.set_cons_zero, List.set_cons_succ, i64_w, i32_w]
                  rfl
                 refine pure_ (i := 15) (N := some 63) (v := ?_) (a' := ?_) #[true, true, true, true, true, true, true, true, true, true, true, true, true, true, true, true, false, false, false, false, false, false, false] rfl rfl (any_of HT_.out (by kernel_rfl)) (fun _ _ _ h => h) (Or.inl ⟨by rfl, ?_⟩) ?_ ?_
                 rotate_left
                 ·intro w'
                  go_simp
                  with_reducible rfl
                 rotate_left
                 ·simp only [Act.put, List.setIfInBounds_toArray, List.set_cons_zero, List.set_cons_succ, i64_w, i32_w]
                  rfl
                 refine pure_ (i := 16) (N := some 79) (v := ?_) (a' := ?_) #[true, true, true, true, true, true, true, true, true, true, true, true, true, true, true, true, true, false, false, false, false, false, false] rfl rfl (any_of HT_.out (by kernel_rfl)) (fun _ _ _ h => h) (Or.inl ⟨by rfl, ?_⟩) ?_ ?_
                 rotate_left
                 ·intro w'
                  go_simp
                  with_reducible rfl
                 rotate_left
                 ·simp only [Act.put, List.setIfInBounds_toArray, List.set_cons_zero, List.set_cons_succ, i64_w, i32_w]
                  rfl
                 refine pure_ (i := 17) (N := some 80) (v := ?_) (a' := ?_) #[true, true, true, true, true, true, true, true, true, true, true, true, true, true, true, true, true, true, false, false, false, false, false] rfl rfl (any_of HT_.out (by kernel_rfl)) (fun _ _ _ h => h) (Or.inl ⟨by rfl, ?_⟩) ?_ ?_
                 rotate_left
                 ·intro w'
                  go_simp
                  with_reducible rfl
                 rotate_left
                 ·simp only [Act.put, List.setIfInBounds_toArray, List.set_cons_zero, List.set_cons_succ, i64_w, i32_w]
                  rfl
                 refine pure_ (i := 18) (N := some 81) (v := ?_) (a' := ?_) #[true, true, true, true, true, true, true, true, true, true, true, true, true, true, true, true, true, true, true, false, false, false, false] rfl rfl (any_of HT_.out (by kernel_rfl)) (fun _ _ _ h => h) (Or.inl ⟨by rfl, ?_⟩) ?_ ?_
                 rotate_left
                 ·intro w'
                  go_simp
                  with_reducible rfl
                 rotate_left
                 ·simp only [Act.put, List.setIfInBounds_toArray, List.set_cons_zero, List.set_cons_succ, i64_w, i32_w]
                  rfl
                 refine one_ (i := 19) (N := some 12) #[true, true, true, true, true, true, true, true, true, true, true, true, true, true, true, true, true, true, true, true, false, false, false] rfl rfl (one_of HT_.out (by kernel_rfl)) (by decide) (fun K hK => ?_)
                 refine box_step ?hg (N := 12) ?hd (cs := #[.int .i64 0, .int .i64 0]) (t := 24) ?hr ?_; (case hd => rfl); (case hg => rfl); (case hr => first | (go_simp; done) | (go_simp; rfl))
                 intro gb351 hg w41 hbox hb
                 have HS1_ := (hb.cell (World.block_lt_of_cell? _ _ (hHeld.2.1))).trans (hHeld.2.1)
                 have HS2_ := (hb.cell (World.block_lt_of_cell? _ _ (hHeld.2.2.1))).trans (hHeld.2.2.1)
                 have HS3_ := (hb.cell (World.block_lt_of_cell? _ _ (hHeld.2.2.2.1))).trans (hHeld.2.2.2.1)
                 have HS4_ := (hb.cell (World.block_lt_of_cell? _ _ (hHeld.2.2.2.2.1))).trans (hHeld.2.2.2.2.1)
                 have HS5_ := (hb.cell (World.block_lt_of_cell? _ _ (hHeld.2.2.2.2.2.1))).trans (hHeld.2.2.2.2.2.1)
                 have HS6_ := (hb.cell (World.block_lt_of_cell? _ _ (hHeld.2.2.2.2.2.2.1))).trans (hHeld.2.2.2.2.2.2.1)
                 have HS7_ := (hb.cell (World.block_lt_of_cell? _ _ (hHeld.2.2.2.2.2.2.2))).trans (hHeld.2.2.2.2.2.2.2)
                 have n0_ := Aside0.mk (Kd.S_below (sk HO_5) hb)
                 have n1_ := Aside0.mk (Kd.R_below (rk HL344_5) hb)
                 have n2_ := Aside0.mk (Kd.R_below (rk HL344_6) hb)
                 have n3_ := Aside0.mk (Kd.S_below (sk HO347) hb)
                 have n4_ := Aside0.mk (Kd.C_below (by repeat (first | (with_reducible exact HR344_5.out) | (with_reducible refine Kd.C_alloc ?_ _) | (with_reducible refine Kd.C_drewN ?_ _) | (with_reducible refine Kd.C_drew ?_) | exact HR344_5.out)) hb)
                 have n5_ := Aside0.mk (Kd.C_below (by repeat (first | (with_reducible exact HR344_6.out) | (with_reducible refine Kd.C_alloc ?_ _) | (with_reducible refine Kd.C_drewN ?_ _) | (with_reducible refine Kd.C_drew ?_) | exact HR344_6.out)) hb)
                 have n6_ := Aside0.mk (below_step (bl HB) hb)
                 have n7_ := Aside0.mk (hbox)
                 have n8_ := gs HB hg
                 have n9_ := gs HB hg
                 clear HO_5
                 clear HL344_5
                 clear HL344_6
                 clear HO347
                 clear HR344_5
                 clear HR344_6
                 clear HB
                 have HO_5 := n0_
                 have HL344_5 := n1_
                 have HL344_6 := n2_
                 have HO347 := n3_
                 have HR344_5 := n4_
                 have HR344_6 := n5_
                 have HB := n6_
                 have BK351 := n7_
                 have GW351 := n8_
                 have GE351 := n9_
                 clear n0_ n1_ n2_ n3_ n4_ n5_ n6_ n7_ n8_ n9_
                 clear hb hbox hg
                 refine hK.out _ _ ⟨(pw_cell_below HB.out hw343_0), HS1_, HS2_, HS3_, HS4_, HS5_, HS6_, HS7_⟩ (fun hHeld => ?_)
                 clear hK K
                 refine norm_ (a' := ?_) ?_ ?_
                 rotate_left
                 ·show Act.put _ (some 12) _ = _
                  simp only [Act.put, List.setIfInBounds_toArray, List.set_cons_zero, List.set_cons_succ, i64_w, i32_w]
                  rfl
                 exact norm_ (by simp only [putAll, Act.put, List.setIfInBounds_toArray, List.set_cons_zero, List.set_cons_succ]) (hCont (v346, gb351) _ ⟨hHeld, (Kd.R_mono (rk HL344_5) (fun _ hk => hk.2)), (Kd.R_mono (rk HL344_6) (fun _ hk => hk.2)), (Kd.S_mono (sk HO347) (fun _ hk => ⟨hk.1.2, ⟨hk.2, hk.1.1.2⟩⟩)), (Kd.S_mono (sk HO_5) (fun _ hk => hk.2)), (bk BK351), GW351.out, GE351.out, (bs HB (by simp [ag, GE351.out]))⟩)
                ·skip
                 refine box_step ?hg (N := 12) ?hd (cs := #[.int .i64 0, .int .i64 0]) (t := 24) ?hr ?_; (case hd => rfl); (case hg => rfl); (case hr => first | (go_simp; done) | (go_simp; rfl))
                 intro gb351 hg w40 hbox hb
                 have HS1_ := (hb.cell (World.block_lt_of_cell? _ _ (hHeld.2.1))).trans (hHeld.2.1)
                 have HS2_ := (hb.cell (World.block_lt_of_cell? _ _ (hHeld.2.2.1))).trans (hHeld.2.2.1)
                 have HS3_ := (hb.cell (World.block_lt_of_cell? _ _ (hHeld.2.2.2.1))).trans (hHeld.2.2.2.1)
                 have HS4_ := (hb.cell (World.block_lt_of_cell? _ _ (hHeld.2.2.2.2.1))).trans (hHeld.2.2.2.2.1)
                 have HS5_ := (hb.cell (World.block_lt_of_cell? _ _ (hHeld.2.2.2.2.2.1))).trans (hHeld.2.2.2.2.2.1)
                 have HS6_ := (hb.cell (World.block_lt_of_cell? _ _ (hHeld.2.2.2.2.2.2.1))).trans (hHeld.2.2.2.2.2.2.1)
                 have HS7_ := (hb.cell (World.block_lt_of_cell? _ _ (hHeld.2.2.2.2.2.2.2))).trans (hHeld.2.2.2.2.2.2.2)
                 have n0_ := Aside0.mk (Kd.S_below (sk HO_5) hb)
                 have n1_ := Aside0.mk (Kd.R_below (rk HL344_5) hb)
                 have n2_ := Aside0.mk (Kd.R_below (rk HL344_6) hb)
                 have n3_ := Aside0.mk (Kd.C_below (by repeat (first | (with_reducible exact HR344_5.out) | (with_reducible refine Kd.C_alloc ?_ _) | (with_reducible refine Kd.C_drewN ?_ _) | (with_reducible refine Kd.C_drew ?_) | exact HR344_5.out)) hb)
                 have n4_ := Aside0.mk (Kd.C_below (by repeat (first | (with_reducible exact HR344_6.out) | (with_reducible refine Kd.C_alloc ?_ _) | (with_reducible refine Kd.C_drewN ?_ _) | (with_reducible refine Kd.C_drew ?_) | exact HR344_6.out)) hb)
                 have n5_ := Aside0.mk (below_step (bl HB) hb)
                 have n6_ := Aside0.mk (hbox)
                 have n7_ := gs HB hg
                 have n8_ := gs HB hg
                 clear HO_5
                 clear HL344_5
                 clear HL344_6
                 clear HR344_5
                 clear HR344_6
                 clear HB
                 have HO_5 := n0_
                 have HL344_5 := n1_
                 have HL344_6 := n2_
                 have HR344_5 := n3_
                 have HR344_6 := n4_
                 have HB := n5_
                 have BK351 := n6_
                 have GW351 := n7_
                 have GE351 := n8_
                 clear n0_ n1_ n2_ n3_ n4_ n5_ n6_ n7_ n8_
                 clear hb hbox hg
                 refine hK.out _ _ ⟨(pw_cell_below HB.out hw343_0), HS1_, HS2_, HS3_, HS4_, HS5_, HS6_, HS7_⟩ (fun hHeld => ?_)
                 clear hK K
                 refine norm_ (a' := ?_) ?_ ?_
                 rotate_left
                 ·show Act.put _ (some 12) _ = _
                  simp only [Act.put, List.setIfInBounds_toArray, List.set_cons_zero, List.set_cons_succ, i64_w, i32_w]
                  rfl
                 refine one_ (i := 14) (N := some 78) #[true, true, true, true, true, true, true, true, true, true, true, true, true, true, true, false, false, false, false, true, false, false, false] rfl rfl (one_of HT_.out (by kernel_rfl)) (by decide) (fun K hK => ?_)
                 refine goes_ Try.func14 (by kernel_rfl) rfl #[.slice (some ad344) x5_2.length co38, .agg #[.int .i64 ji25, .int .i64 (Int.tmod (wrap64 (rd l1 x9_2)) ((rd_T42 x5_2 (ji25)).f1))]] (by rfl) rfl rfl (by (try simp only [List.map_toArray, List.map_cons, List.map_nil]); first | done | (simp only [hji25]; rfl) | rfl | (simp only [List.length_drop, List.length_take]; rfl)) ?_
                 with_reducible refine (selvedgeref18_Take.calls _ _ x5_2 ji25 (Int.tmod (wrap64 (rd l1 x9_2)) ((rd_T42 x5_2 (ji25)).f1)) t345 t348 t349 t350 _ ?side1 ?side2 A29.out).mono ?_
                 (case side1 => repeat (first | exact (Kd.S_reads' HO_5.out).2.2 | (with_reducible refine Kd.C_alloc ?_ _) | (with_reducible refine Kd.C_drewN ?_ _) | (with_reducible refine Kd.C_drew ?_)))
                 (case side2 => exact (Kd.S_reads' HO_5.out).2.1)
                 rintro e w41 ⟨v346, rfl, ho0, hb⟩
                 have HS1_ := (hb.cell (World.block_lt_of_cell? _ _ (hHeld.2.1))).trans (hHeld.2.1)
                 have HS2_ := (hb.cell (World.block_lt_of_cell? _ _ (hHeld.2.2.1))).trans (hHeld.2.2.1)
                 have HS3_ := (hb.cell (World.block_lt_of_cell? _ _ (hHeld.2.2.2.1))).trans (hHeld.2.2.2.1)
                 have HS4_ := (hb.cell (World.block_lt_of_cell? _ _ (hHeld.2.2.2.2.1))).trans (hHeld.2.2.2.2.1)
                 have HS5_ := (hb.cell (World.block_lt_of_cell? _ _ (hHeld.2.2.2.2.2.1))).trans (hHeld.2.2.2.2.2.1)
                 have HS6_ := (hb.cell (World.block_lt_of_cell? _ _ (hHeld.2.2.2.2.2.2.1))).trans (hHeld.2.2.2.2.2.2.1)
                 have HS7_ := (hb.cell (World.block_lt_of_cell? _ _ (hHeld.2.2.2.2.2.2.2))).trans (hHeld.2.2.2.2.2.2.2)
                 refine ⟨_, rfl, ?_⟩
                 have hone_v346 := Kd.S_one ho0
                 have n0_ := Aside0.mk (Kd.S_elder' (sk HO_5) (Kd.S_base ho0) hb)
                 have n1_ := Aside0.mk (Kd.R_below (rk HL344_5) hb)
                 have n2_ := Aside0.mk (Kd.R_below (rk HL344_6) hb)
                 have n3_ := Aside0.mk (Kd.S_lower (Kd.S_new' (Kd.S_new' (Kd.S_new' ho0 (Kd.S_lt (sk HO_5))) (Kd.R_lt (rk HL344_5))) (Kd.R_lt (rk HL344_6))) (below_size (bs HB (by simp [ag, GE351.out]))))
                 have n4_ := Aside0.mk (Kd.C_below (by repeat (first | (with_reducible exact HR344_5.out) | (with_reducible refine Kd.C_alloc ?_ _) | (with_reducible refine Kd.C_drewN ?_ _) | (with_reducible refine Kd.C_drew ?_) | exact HR344_5.out)) hb)
                 have n5_ := Aside0.mk (Kd.C_below (by repeat (first | (with_reducible exact HR344_6.out) | (with_reducible refine Kd.C_alloc ?_ _) | (with_reducible refine Kd.C_drewN ?_ _) | (with_reducible refine Kd.C_drew ?_) | exact HR344_6.out)) hb)
                 have n6_ := Aside0.mk (bb BK351 hb)
                 have n7_ := Aside0.mk (below_step (bs HB (by simp [ag, GE351.out])) hb)
                 clear HO_5
                 clear HL344_5
                 clear HL344_6
                 clear HR344_5
                 clear HR344_6
                 clear BK351
                 clear HB
                 have HO_5 := n0_
                 have HL344_5 := n1_
                 have HL344_6 := n2_
                 have HO347 := n3_
                 have HR344_5 := n4_
                 have HR344_6 := n5_
                 have BK351 := n6_
                 have HB := n7_
                 clear n0_ n1_ n2_ n3_ n4_ n5_ n6_ n7_
                 (try clear hb)
                 (try clear hb2)
                 (try clear hk)
                 (try clear hi)
                 (try clear ho0)
                 refine hK.out _ _ ⟨(pw_cell_below HB.out hw343_0), HS1_, HS2_, HS3_, HS4_, HS5_, HS6_, HS7_⟩ (fun hHeld => ?_)
                 clear hK K
                 refine norm_ (a' := ?_) ?_ ?_
                 rotate_left
                 ·show Act.put _ (some 78) _ = _
                  simp only [Act.put, List.setIfInBounds_toArray, List.set_cons_zero, List.set_cons_succ, i64_w, i32_w]
                  rfl
                 refine pure_ (i := 15) (N := some 63) (v := ?_) (a' := ?_) #[true, true, true, true, true, true, true, true, true, true, true, true, true, true, true, true, false, false, false, true, false, false, false] rfl rfl (any_of HT_.out (by kernel_rfl)) (fun _ _ _ h => h) (Or.inl ⟨by rfl, ?_⟩) ?_ ?_
                 rotate_left
                 ·intro w'
                  go_simp
                  with_reducible rfl
                 rotate_left
                 ·simp only [Act.put, List.setIfInBounds_toArray, List.set_cons_zero, List.set_cons_succ, i64_w, i32_w]
                  rfl
                 refine pure_ (i := 16) (N := some 79) (v := ?_) (a' := ?_) #[true, true, true, true, true, true, true, true, true, true, true, true, true, true, true, true, true, false, false, true, false, false, false] rfl rfl (any_of HT_.out (by kernel_rfl)) (fun _ _ _ h => h) (Or.inl ⟨by rfl, ?_⟩) ?_ ?_
                 rotate_left
                 ·intro w'
                  go_simp
                  with_reducible rfl
                 rotate_left
                 ·simp only [Act.put, List.setIfInBounds_toArray, List.set_cons_zero, List.set_cons_succ, i64_w, i32_w]
                  rfl
                 refine pure_ (i := 17) (N := some 80) (v := ?_) (a' := ?_) #[true, true, true, true, true, true, true, true, true, true, true, true, true, true, true, true, true, true, false, true, false, false, false] rfl rfl (any_of HT_.out (by kernel_rfl)) (fun _ _ _ h => h) (Or.inl ⟨by rfl, ?_⟩) ?_ ?_
                 rotate_left
                 ·intro w'
                  go_simp
                  with_reducible rfl
                 rotate_left
                 ·simp only [Act.put, List.setIfInBounds_toArray, List.set_cons_zero, List.set_cons_succ, i64_w, i32_w]
                  rfl
                 refine pure_ (i := 18) (N := some 81) (v := ?_) (a' := ?_) #[true, true, true, true, true, true, true, true, true, true, true, true, true, true, true, true, true, true, true, true, false, false, false] rfl rfl (any_of HT_.out (by kernel_rfl)) (fun _ _ _ h => h) (Or.inl ⟨by rfl, ?_⟩) ?_ ?_
                 rotate_left
                 ·intro w'
                  go_simp
                  with_reducible rfl
                 rotate_left
                 ·simp only [Act.put, List.setIfInBounds_toArray, List.set_cons_zero, List.set_cons_succ, i64_w, i32_w]
                  rfl
                 exact norm_ (by simp only [putAll, Act.put, List.setIfInBounds_toArray, List.set_cons_zero, List.set_cons_succ]) (hCont (v346, gb351) _ ⟨hHeld, (Kd.R_mono (rk HL344_5) (fun _ hk => hk.2)), (Kd.R_mono (rk HL344_6) (fun _ hk => hk.2)), (Kd.S_mono (sk HO347) (fun _ hk => ⟨hk.1.2, ⟨hk.2, hk.1.1.2⟩⟩)), (Kd.S_mono (sk HO_5) (fun _ hk => hk.2)), (bk BK351), GW351.out, GE351.out, (bs HB (by simp [ag, GE351.out]))⟩)
               rintro ⟨v346, gb351⟩ w42 ⟨hS_, h0_, h1_, h2_, h3_, h4_, h5_, h6_, h7_⟩
               have n0_ : Aside0 (Kd.R (Kd.int .i64) 3 w42 w.heap.size (fun k_ => some k_ ≠ (.slice (some ad344) x5_2.length co38 : Value).ownBlock) (.slice A344_5 ((rd_T42 x5_2 (ji25)).f5).length c344_5) ((rd_T42 x5_2 (ji25)).f5)) := ⟨h0_⟩
               have n1_ : Aside0 (Kd.R (Kd.int .i64) 3 w42 w.heap.size (fun k_ => some k_ ≠ (.slice (some ad344) x5_2.length co38 : Value).ownBlock) (.slice A344_6 ((rd_T42 x5_2 (ji25)).f6).length c344_6) ((rd_T42 x5_2 (ji25)).f6)) := ⟨h1_⟩
               have n2_ : Aside0 (Kd.S k42 42 w42 w.heap.size (fun k_ => some k_ ≠ (.slice A344_5 ((rd_T42 x5_2 (ji25)).f5).length c344_5 : Value).ownBlock ∧ some k_ ≠ (.slice A344_6 ((rd_T42 x5_2 (ji25)).f6).length c344_6 : Value).ownBlock ∧ some k_ ≠ (.slice (some ad344) x5_2.length co38 : Value).ownBlock) v346 t345) := ⟨h2_⟩
               have n3_ : Aside0 (Kd.S k42 42 w42 w.heap.size (fun k_ => some k_ ≠ (v346 : Value).ownBlock) (.slice (some ad344) x5_2.length co38) x5_2) := ⟨h3_⟩
               have n4_ : Aside0 (w42.heap[gb351]? = some (.cells #[.int .i64 0, .int .i64 0] 24 (0, 0))) := ⟨h4_⟩
               have n5_ : Aside0 (w.heap.size ≤ gb351) := ⟨h5_⟩
               have n6_ : Aside0 (w.heap.size ≤ gb351) := ⟨h6_⟩
               have n7_ : Aside0 (Below w.heap.size w w42) := ⟨h7_⟩
               clear HO_5
               clear HB
               clear h0_ h1_ h2_ h3_ h4_ h5_ h6_ h7_
               have HL344_5 := n0_
               have HL344_6 := n1_
               have HO347 := n2_
               have HO_5 := n3_
               have BK351 := n4_
               have GW351 := n5_
               have GE351 := n6_
               have HB := n7_
               clear n0_ n1_ n2_ n3_ n4_ n5_ n6_ n7_
               have hHeld : w42.cell? (ad342.add (x9_2).toNat) = some (.int .u8 (rd l1 x9_2)) ∧ w42.cell? (ad344.add (((ji25)).toNat * 7)) = some (.int .i64 ((rd_T42 x5_2 (ji25)).f0)) ∧ w42.cell? ⟨(ad344.add (((ji25)).toNat * 7)).block, (ad344.add (((ji25)).toNat * 7)).off + 1, none⟩ = some (.int .i64 ((rd_T42 x5_2 (ji25)).f1)) ∧ w42.cell? ⟨(ad344.add (((ji25)).toNat * 7)).block, (ad344.add (((ji25)).toNat * 7)).off + 2, none⟩ = some (.int .i64 ((rd_T42 x5_2 (ji25)).f2)) ∧ w42.cell? ⟨(ad344.add (((ji25)).toNat * 7)).block, (ad344.add (((ji25)).toNat * 7)).off + 3, none⟩ = some (.int .i64 ((rd_T42 x5_2 (ji25)).f3)) ∧ w42.cell? ⟨(ad344.add (((ji25)).toNat * 7)).block, (ad344.add (((ji25)).toNat * 7)).off + 4, none⟩ = some (.int .i64 ((rd_T42 x5_2 (ji25)).f4)) ∧ w42.cell? ⟨(ad344.add (((ji25)).toNat * 7)).block, (ad344.add (((ji25)).toNat * 7)).off + 5, none⟩ = some (.slice A344_5 ((rd_T42 x5_2 (ji25)).f5).length c344_5) ∧ w42.cell? ⟨(ad344.add (((ji25)).toNat * 7)).block, (ad344.add (((ji25)).toNat * 7)).off + 6, none⟩ = some (.slice A344_6 ((rd_T42 x5_2 (ji25)).f6).length c344_6) := hS_
               refine norm_ (a' := ?_) ?_ ?_
               rotate_left
               ·simp only [putAll, Act.put, List.setIfInBounds_toArray, List.set_cons_zero, List.set_cons_succ]
                rfl
               refine pure_ (i := 20) (N := some 11) (v := ?_) (a' := ?_) #[true, true, true, true, true, true, true, true, true, true, true, true, true, true, true, true, true, true, true, true, true, false, false] rfl rfl (any_of HT_.out (by kernel_rfl)) (fun _ _ _ h => h) (Or.inl ⟨by rfl, ?_⟩) ?_ ?_
               rotate_left
               ·intro w'
                go_simp
                with_reducible rfl
               rotate_left
               ·simp only [Act.put, List.setIfInBounds_toArray, List.set_cons_zero, List.set_cons_succ, i64_w, i32_w]
                rfl
               refine one_ (i := 21) (N := none) #[true, true, true, true, true, true, true, true, true, true, true, true, true, true, true, true, true, true, true, true, true, true, false] rfl rfl (one_of HT_.out (by kernel_rfl)) (by decide) (fun K hK => ?_)
               have hs43 : w42.cell? ⟨gb351, 0, none⟩ = some (.int .i64 0) := (blk_cell BK351.out 0).trans rfl
               have hfs43 := blk_frozen BK351.out 0
               have hs44 : w42.cell? ⟨gb351, 1, none⟩ = some (.int .i64 0) := (blk_cell BK351.out 1).trans rfl
               have hfs44 := blk_frozen BK351.out 1
               refine skip_ (w1 := ?_) (by rfl) rfl ?_ ?_
               rotate_left
               ·go_simp
                rfl
               refine hK.out _ _ ⟨((cell_far (p := ⟨gb351, _, none⟩) (by first | exact Nat.ne_of_lt (Nat.lt_of_lt_of_le (by have := World.block_lt_of_cell? _ _ hw343_0; first | rwa [add_block] at this | exact this) GW351.out) | (rw [add_block]; exact Nat.ne_of_lt (Nat.lt_of_lt_of_le (by have := World.block_lt_of_cell? _ _ hw343_0; first | rwa [add_block] at this | exact this) GW351.out)) | (show (Addr.add _ _).block ≠ _; rw [add_block]; exact Nat.ne_of_lt (Nat.lt_of_lt_of_le (by have := World.block_lt_of_cell? _ _ hw343_0; first | rwa [add_block] at this | exact this) GW351.out)) | (dsimp only; exact Nat.ne_of_lt (Nat.lt_of_lt_of_le (by have := World.block_lt_of_cell? _ _ hw343_0; first | rwa [add_block] at this | exact this) GW351.out))) _).trans (((cell_far (p := ⟨gb351, _, none⟩) (by first | exact Nat.ne_of_lt (Nat.lt_of_lt_of_le (by have := World.block_lt_of_cell? _ _ hw343_0; first | rwa [add_block] at this | exact this) GW351.out) | (rw [add_block]; exact Nat.ne_of_lt (Nat.lt_of_lt_of_le (by have := World.block_lt_of_cell? _ _ hw343_0; first | rwa [add_block] at this | exact this) GW351.out)) | (show (Addr.add _ _).block ≠ _; rw [add_block]; exact Nat.ne_of_lt (Nat.lt_of_lt_of_le (by have := World.block_lt_of_cell? _ _ hw343_0; first | rwa [add_block] at this | exact this) GW351.out)) | (dsimp only; exact Nat.ne_of_lt (Nat.lt_of_lt_of_le (by have := World.block_lt_of_cell? _ _ hw343_0; first | rwa [add_block] at this | exact this) GW351.out))) _).trans (hHeld.1)))), ((cell_far (p := ⟨gb351, _, none⟩) (by first | exact Kd.own_blk (Kd.S_ne HO_5.out BK351.out (by decide)) | (rw [add_block]; exact Kd.own_blk (Kd.S_ne HO_5.out BK351.out (by decide))) | (show (Addr.add _ _).block ≠ _; rw [add_block]; exact Kd.own_blk (Kd.S_ne HO_5.out BK351.out (by decide))) | (dsimp only; exact Kd.own_blk (Kd.S_ne HO_5.out BK351.out (by decide)))) _).trans (((cell_far (p := ⟨gb351, _, none⟩) (by first | exact Kd.own_blk (Kd.S_ne HO_5.out BK351.out (by decide)) | (rw [add_block]; exact Kd.own_blk (Kd.S_ne HO_5.out BK351.out (by decide))) | (show (Addr.add _ _).block ≠ _; rw [add_block]; exact Kd.own_blk (Kd.S_ne HO_5.out BK351.out (by decide))) | (dsimp only; exact Kd.own_blk (Kd.S_ne HO_5.out BK351.out (by decide)))) _).trans (hHeld.2.1)))), ((cell_far (p := ⟨gb351, _, none⟩) (by first | exact Kd.own_blk (Kd.S_ne HO_5.out BK351.out (by decide)) | (rw [add_block]; exact Kd.own_blk (Kd.S_ne HO_5.out BK351.out (by decide))) | (show (Addr.add _ _).block ≠ _; rw [add_block]; exact Kd.own_blk (Kd.S_ne HO_5.out BK351.out (by decide))) | (dsimp only; exact Kd.own_blk (Kd.S_ne HO_5.out BK351.out (by decide)))) _).trans (((cell_far (p := ⟨gb351, _, none⟩) (by first | exact Kd.own_blk (Kd.S_ne HO_5.out BK351.out (by decide)) | (rw [add_block]; exact Kd.own_blk (Kd.S_ne HO_5.out BK351.out (by decide))) | (show (Addr.add _ _).block ≠ _; rw [add_block]; exact Kd.own_blk (Kd.S_ne HO_5.out BK351.out (by decide))) | (dsimp only; exact Kd.own_blk (Kd.S_ne HO_5.out BK351.out (by decide)))) _).trans (hHeld.2.2.1)))), ((cell_far (p := ⟨gb351, _, none⟩) (by first | exact Kd.own_blk (Kd.S_ne HO_5.out BK351.out (by decide)) | (rw [add_block]; exact Kd.own_blk (Kd.S_ne HO_5.out BK351.out (by decide))) | (show (Addr.add _ _).block ≠ _; rw [add_block]; exact Kd.own_blk (Kd.S_ne HO_5.out BK351.out (by decide))) | (dsimp only; exact Kd.own_blk (Kd.S_ne HO_5.out BK351.out (by decide)))) _).trans (((cell_far (p := ⟨gb351, _, none⟩) (by first | exact Kd.own_blk (Kd.S_ne HO_5.out BK351.out (by decide)) | (rw [add_block]; exact Kd.own_blk (Kd.S_ne HO_5.out BK351.out (by decide))) | (show (Addr.add _ _).block ≠ _; rw [add_block]; exact Kd.own_blk (Kd.S_ne HO_5.out BK351.out (by decide))) | (dsimp only; exact Kd.own_blk (Kd.S_ne HO_5.out BK351.out (by decide)))) _).trans (hHeld.2.2.2.1)))), ((cell_far (p := ⟨gb351, _, none⟩) (by first | exact Kd.own_blk (Kd.S_ne HO_5.out BK351.out (by decide)) | (rw [add_block]; exact Kd.own_blk (Kd.S_ne HO_5.out BK351.out (by decide))) | (show (Addr.add _ _).block ≠ _; rw [add_block]; exact Kd.own_blk (Kd.S_ne HO_5.out BK351.out (by decide))) | (dsimp only; exact Kd.own_blk (Kd.S_ne HO_5.out BK351.out (by decide)))) _).trans (((cell_far (p := ⟨gb351, _, none⟩) (by first | exact Kd.own_blk (Kd.S_ne HO_5.out BK351.out (by decide)) | (rw [add_block]; exact Kd.own_blk (Kd.S_ne HO_5.out BK351.out (by decide))) | (show (Addr.add _ _).block ≠ _; rw [add_block]; exact Kd.own_blk (Kd.S_ne HO_5.out BK351.out (by decide))) | (dsimp only; exact Kd.own_blk (Kd.S_ne HO_5.out BK351.out (by decide)))) _).trans (hHeld.2.2.2.2.1)))), ((cell_far (p := ⟨gb351, _, none⟩) (by first | exact Kd.own_blk (Kd.S_ne HO_5.out BK351.out (by decide)) | (rw [add_block]; exact Kd.own_blk (Kd.S_ne HO_5.out BK351.out (by decide))) | (show (Addr.add _ _).block ≠ _; rw [add_block]; exact Kd.own_blk (Kd.S_ne HO_5.out BK351.out (by decide))) | (dsimp only; exact Kd.own_blk (Kd.S_ne HO_5.out BK351.out (by decide)))) _).trans (((cell_far (p := ⟨gb351, _, none⟩) (by first | exact Kd.own_blk (Kd.S_ne HO_5.out BK351.out (by decide)) | (rw [add_block]; exact Kd.own_blk (Kd.S_ne HO_5.out BK351.out (by decide))) | (show (Addr.add _ _).block ≠ _; rw [add_block]; exact Kd.own_blk (Kd.S_ne HO_5.out BK351.out (by decide))) | (dsimp only; exact Kd.own_blk (Kd.S_ne HO_5.out BK351.out (by decide)))) _).trans (hHeld.2.2.2.2.2.1)))), ((cell_far (p := ⟨gb351, _, none⟩) (by first | exact Kd.own_blk (Kd.S_ne HO_5.out BK351.out (by decide)) | (rw [add_block]; exact Kd.own_blk (Kd.S_ne HO_5.out BK351.out (by decide))) | (show (Addr.add _ _).block ≠ _; rw [add_block]; exact Kd.own_blk (Kd.S_ne HO_5.out BK351.out (by decide))) | (dsimp only; exact Kd.own_blk (Kd.S_ne HO_5.out BK351.out (by decide)))) _).trans (((cell_far (p := ⟨gb351, _, none⟩) (by first | exact Kd.own_blk (Kd.S_ne HO_5.out BK351.out (by decide)) | (rw [add_block]; exact Kd.own_blk (Kd.S_ne HO_5.out BK351.out (by decide))) | (show (Addr.add _ _).block ≠ _; rw [add_block]; exact Kd.own_blk (Kd.S_ne HO_5.out BK351.out (by decide))) | (dsimp only; exact Kd.own_blk (Kd.S_ne HO_5.out BK351.out (by decide)))) _).trans (hHeld.2.2.2.2.2.2.1)))), ((cell_far (p := ⟨gb351, _, none⟩) (by first | exact Kd.own_blk (Kd.S_ne HO_5.out BK351.out (by decide)) | (rw [add_block]; exact Kd.own_blk (Kd.S_ne HO_5.out BK351.out (by decide))) | (show (Addr.add _ _).block ≠ _; rw [add_block]; exact Kd.own_blk (Kd.S_ne HO_5.out BK351.out (by decide))) | (dsimp only; exact Kd.own_blk (Kd.S_ne HO_5.out BK351.out (by decide)))) _).trans (((cell_far (p := ⟨gb351, _, none⟩) (by first | exact Kd.own_blk (Kd.S_ne HO_5.out BK351.out (by decide)) | (rw [add_block]; exact Kd.own_blk (Kd.S_ne HO_5.out BK351.out (by decide))) | (show (Addr.add _ _).block ≠ _; rw [add_block]; exact Kd.own_blk (Kd.S_ne HO_5.out BK351.out (by decide))) | (dsimp only; exact Kd.own_blk (Kd.S_ne HO_5.out BK351.out (by decide)))) _).trans (hHeld.2.2.2.2.2.2.2))))⟩ (fun hHeld => ?_)
               clear hK K
               refine pure_ (i := 22) (N := some 13) (v := ?_) (a' := ?_) #[true, true, true, true, true, true, true, true, true, true, true, true, true, true, true, true, true, true, true, true, true, true, true] rfl rfl (any_of HT_.out (by kernel_rfl)) (fun _ _ _ h => h) (Or.inl ⟨by rfl, ?_⟩) ?_ ?_
               rotate_left
               ·intro w'
                go_simp
                with_reducible rfl
               rotate_left
               ·simp only [Act.put, List.setIfInBounds_toArray, List.set_cons_zero, List.set_cons_succ, i64_w, i32_w]
                rfl
               refine done_ (done_of HT_.out (by kernel_rfl)) ?_
               try go_wp2
               go_roundg kj16
               case measure => have := HJ2.out; have := HK2.out; have := HJ16.out; omega
               case rel => exact ⟨(x5_2), (wrap64 (x9_2 + 1)), (by first | rfl | (simp; done) | (simp [*]; done)), H', ⟨by have := HJ2.out; have := HK2.out; have := HJ16.out; omega⟩, ⟨by (with_reducible repeat (first | apply Kd.S_alloc | apply Kd.S_drewN | apply Kd.S_drew)); exact Kd.S_mono (Kd.S_far (p := ⟨gb351, 1, none⟩) (Kd.S_far (p := ⟨gb351, 0, none⟩) (Kd.S_types HO_5.out BK351.out (by decide)) (fun _ hk => hk.2) (.int .i64 t348)) (fun _ hk => hk.2) (.int .i64 t349)) (fun _ hk => trivial)⟩, ⟨bs HB (by simp [ag, GE351.out])⟩⟩
            ·rw [if_neg c27] at H
             exact absurd H (by simp)
           ·rw [if_neg c26] at H
            exact absurd H (by simp)
         ·rw [if_neg c23] at H
          exact absurd H (by simp)
        ·rw [if_neg c22] at H
         exact absurd H (by simp)
       ·replace c21 := Bool.eq_false_iff.mpr c21
        subst c21
        have H1 : (some x5_2) = some r := by rw [if_neg (show ¬ (false = true) by decide)] at H; exact H
        clear H
        have H := H1
        clear H1
        obtain rfl := Option.some.inj H
        go_wp2
        go_ret
        exact ⟨_, by first | rfl | (simp [errW_none, errW_some] <;> rfl) | (simp [*, errW_none, errW_some] <;> rfl), sk HO_5, bl HB⟩

end Go.Proofs.Ytehjmmedghcndaa.PG
