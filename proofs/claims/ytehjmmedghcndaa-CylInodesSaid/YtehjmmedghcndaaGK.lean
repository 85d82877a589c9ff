import Derived.Test.YtehjmmedghcndaaPGx0
import Derived.Test.YtehjmmedghcndaaGB
import Derived.Test.YtehjmmedghcndaaCF
import Derived.Test.YtehjmmedghcndaaGJ
import Derived.Test.YtehjmmedghcndaaCW
import Derived.Test.YtehjmmedghcndaaCL
import Derived.Test.YtehjmmedghcndaaGI
import Derived.Test.YtehjmmedghcndaaPGx1
import Derived.Test.YtehjmmedghcndaaLT
namespace Go.Proofs.Ytehjmmedghcndaa.PG
open Go.RowKit Go.Proofs.YtehjmmedghcndaaW.PrintWords Go.Proofs.YtehjmmedghcndaaW.PrintLast Go.Proofs.YtehjmmedghcndaaW.PrintMore
attribute [local go_sem] max2_int min2_int max_two min_two max_three min_three max_four min_four run_store_one   -- for this text's walks alone
set_option linter.unusedVariables false
set_option linter.unusedSimpArgs false
attribute [local go_sem high] eqA24
/-! ### selvedgelaw18_CylInodes: function 10 -/
def selvedgelaw18_CylInodes.f (k : Nat) (l0 : List (S42)) (a1 : Int) (a2_0 : Int) (a2_1 : Int) : Option (Bool) := (selvedgelaw18_few.f k l0).bind fun t873 => ((cyl_File.f t873 a1).bind fun bt876 => ((selvedgelaw18_few.f k l0).bind fun t883 => ((selvedgeref18_File.f k t883 a1).bind fun bt886 => ((cyl_Dir.f k t873).bind fun bt893 => ((selvedgelaw18_few.f k l0).bind fun t900 => ((selvedgeref18_Dir.f k t900).bind fun bt903 => ((cyl_Leave.f k t873 a2_0 a2_1).bind fun bt910 => ((selvedgelaw18_few.f k l0).bind fun t914 => ((selvedgeref18_Leave.f k t914 a2_0 a2_1).bind fun bt917 => ((selvedgelaw18_live.f).bind fun t921 => (if t921 = true then ((selvedgeref18_SameAll.f k bt876.1 bt886.1).bind fun t922 => (if t922 = true then (if (bt876.2.1 == bt886.2.1 && (bt876.2.2.1 == bt886.2.2.1)) = true then (if bt876.2.2.2 = bt886.2.2.2 then ((selvedgeref18_SameAll.f k bt893.1 bt903.1).bind fun t923 => (if t923 = true then (if (bt893.2.1 == bt903.2.1 && (bt893.2.2.1 == bt903.2.2.1)) = true then (if bt893.2.2.2 = bt903.2.2.2 then ((selvedgeref18_SameAll.f k bt910.1 bt917.1).bind fun t924 => (if t924 = true then (if bt910.2 = bt917.2 then ((selvedgelaw18_few.f k l0).bind fun t925 => ((selvedgeref18_SameAll.f k t873 t925).bind fun t928 => (if t928 = true then (some true) else (none)))) else (none)) else (none))) else (none)) else (none)) else (none))) else (none)) else (none)) else (none))) else (none))))))))))))
def selvedgelaw18_CylInodes.T7 : Bool × List (List Nat × List Nat) := (true, [([], []), ([0], [0]), ([], []), ([1, 2, 1], [1, 2]), ([3], [3]), ([4], [4]), ([4], [4]), ([5, 3, 0, 1, 2, 3, 4, 5], [5]), ([6, 7, 0, 1, 2, 3, 4, 5, 6, 7], [6])])
def selvedgelaw18_CylInodes.B7 : List Nat := [0, 1, 0, 7, 15, 31, 31, 63, 255]
theorem selvedgelaw18_CylInodes.tab7 : rtab .any (opsOf Try.f10 7) = selvedgelaw18_CylInodes.T7 := by kernel_rfl
theorem selvedgelaw18_CylInodes.bits7 : waitsOk selvedgelaw18_CylInodes.T7.2 selvedgelaw18_CylInodes.B7 = true := by kernel_rfl
set_option maxHeartbeats 8000000 in
set_option maxRecDepth 100000 in
theorem selvedgelaw18_CylInodes.calls (k : Nat) (A0 : Option Addr) (c0 : Nat) (l0 : List (S42)) (a1 : Int) (a2_0 : Int) (a2_1 : Int) (r : Bool) (w : World) (hr0 : Kd.C k42 w A0 l0.length l0) (hc0 : l0.length ≤ c0) (h : selvedgelaw18_CylInodes.f k l0 a1 a2_0 a2_1 = some r) :
  Calls Try.prog 10 #[.slice A0 l0.length c0, .int .i64 a1, .agg #[.int .i64 a2_0, .int .i64 a2_1]] w fun e w' => e = .returned (.bool r) ∧ Below w.heap.size w w' := by
 have hu24 := Try.underlying24
 have HR0 := Aside0.mk hr0
 have HC0 := Aside0.mk hc0
 clear hr0 hc0
 have HB := Aside0.mk (Below.refl w.heap.size w)
 have H : ((selvedgelaw18_few.f k l0).bind fun t873 => ((cyl_File.f t873 a1).bind fun bt876 => ((selvedgelaw18_few.f k l0).bind fun t883 => ((selvedgeref18_File.f k t883 a1).bind fun bt886 => ((cyl_Dir.f k t873).bind fun bt893 => ((selvedgelaw18_few.f k l0).bind fun t900 => ((selvedgeref18_Dir.f k t900).bind fun bt903 => ((cyl_Leave.f k t873 a2_0 a2_1).bind fun bt910 => ((selvedgelaw18_few.f k l0).bind fun t914 => ((selvedgeref18_Leave.f k t914 a2_0 a2_1).bind fun bt917 => ((selvedgelaw18_live.f).bind fun t921 => (if t921 = true then ((selvedgeref18_SameAll.f k bt876.1 bt886.1).bind fun t922 => (if t922 = true then (if (bt876.2.1 == bt886.2.1 && (bt876.2.2.1 == bt886.2.2.1)) = true then (if bt876.2.2.2 = bt886.2.2.2 then ((selvedgeref18_SameAll.f k bt893.1 bt903.1).bind fun t923 => (if t923 = true then (if (bt893.2.1 == bt903.2.1 && (bt893.2.2.1 == bt903.2.2.1)) = true then (if bt893.2.2.2 = bt903.2.2.2 then ((selvedgeref18_SameAll.f k bt910.1 bt917.1).bind fun t924 => (if t924 = true then (if bt910.2 = bt917.2 then ((selvedgelaw18_few.f k l0).bind fun t925 => ((selvedgeref18_SameAll.f k t873 t925).bind fun t928 => (if t928 = true then (some true) else (none)))) else (none)) else (none))) else (none)) else (none)) else (none))) else (none)) else (none)) else (none))) else (none))))))))))))) = some r := h
 clear h
 replace H := Option.bind_eq_some_iff.mp H
 obtain ⟨t873, A40, H⟩ := H
 try dsimp -implicitDefEqProofs -simprocs only at H
 have A4 := Aside0.mk A40
 clear A40
 replace H := Option.bind_eq_some_iff.mp H
 obtain ⟨⟨t876, t879, t880, t881⟩, A50, H⟩ := H
 try dsimp -implicitDefEqProofs -simprocs only at H
 have A5 := Aside0.mk A50
 clear A50
 replace H := Option.bind_eq_some_iff.mp H
 obtain ⟨t883, A60, H⟩ := H
 try dsimp -implicitDefEqProofs -simprocs only at H
 have A6 := Aside0.mk A60
 clear A60
 replace H := Option.bind_eq_some_iff.mp H
 obtain ⟨⟨t886, t889, t890, t891⟩, A70, H⟩ := H
 try dsimp -implicitDefEqProofs -simprocs only at H
 have A7 := Aside0.mk A70
 clear A70
 replace H := Option.bind_eq_some_iff.mp H
 obtain ⟨⟨t893, t896, t897, t898⟩, A80, H⟩ := H
 try dsimp -implicitDefEqProofs -simprocs only at H
 have A8 := Aside0.mk A80
 clear A80
 replace H := Option.bind_eq_some_iff.mp H
 obtain ⟨t900, A90, H⟩ := H
 try dsimp -implicitDefEqProofs -simprocs only at H
 have A9 := Aside0.mk A90
 clear A90
 replace H := Option.bind_eq_some_iff.mp H
 obtain ⟨⟨t903, t906, t907, t908⟩, A100, H⟩ := H
 try dsimp -implicitDefEqProofs -simprocs only at H
 have A10 := Aside0.mk A100
 clear A100
 replace H := Option.bind_eq_some_iff.mp H
 obtain ⟨⟨t910, t913⟩, A110, H⟩ := H
 try dsimp -implicitDefEqProofs -simprocs only at H
 have A11 := Aside0.mk A110
 clear A110
 replace H := Option.bind_eq_some_iff.mp H
 obtain ⟨t914, A120, H⟩ := H
 try dsimp -implicitDefEqProofs -simprocs only at H
 have A12 := Aside0.mk A120
 clear A120
 replace H := Option.bind_eq_some_iff.mp H
 obtain ⟨⟨t917, t920⟩, A130, H⟩ := H
 try dsimp -implicitDefEqProofs -simprocs only at H
 have A13 := Aside0.mk A130
 clear A130
 replace H := Option.bind_eq_some_iff.mp H
 obtain ⟨t921, A140, H⟩ := H
 try dsimp -implicitDefEqProofs -simprocs only at H
 have A14 := Aside0.mk A140
 clear A140
 by_cases c15 : t921 = true
 ·subst c15
  have H1 : ((selvedgeref18_SameAll.f k t876 t886).bind fun t922 => (if t922 = true then (if (t879 == t889 && (t880 == t890)) = true then (if t881 = t891 then ((selvedgeref18_SameAll.f k t893 t903).bind fun t923 => (if t923 = true then (if (t896 == t906 && (t897 == t907)) = true then (if t898 = t908 then ((selvedgeref18_SameAll.f k t910 t917).bind fun t924 => (if t924 = true then (if t913 = t920 then ((selvedgelaw18_few.f k l0).bind fun t925 => ((selvedgeref18_SameAll.f k t873 t925).bind fun t928 => (if t928 = true then (some true) else (none)))) else (none)) else (none))) else (none)) else (none)) else (none))) else (none)) else (none)) else (none))) = some r := by rw [if_pos rfl] at H; exact H
  clear H
  have H := H1
  clear H1
  replace H := Option.bind_eq_some_iff.mp H
  obtain ⟨t922, A160, H⟩ := H
  try dsimp -implicitDefEqProofs -simprocs only at H
  have A16 := Aside0.mk A160
  clear A160
  by_cases c17 : t922 = true
  ·subst c17
   have H1 : (if (t879 == t889 && (t880 == t890)) = true then (if t881 = t891 then ((selvedgeref18_SameAll.f k t893 t903).bind fun t923 => (if t923 = true then (if (t896 == t906 && (t897 == t907)) = true then (if t898 = t908 then ((selvedgeref18_SameAll.f k t910 t917).bind fun t924 => (if t924 = true then (if t913 = t920 then ((selvedgelaw18_few.f k l0).bind fun t925 => ((selvedgeref18_SameAll.f k t873 t925).bind fun t928 => (if t928 = true then (some true) else (none)))) else (none)) else (none))) else (none)) else (none)) else (none))) else (none)) else (none)) = some r := by rw [if_pos rfl] at H; exact H
   clear H
   have H := H1
   clear H1
   by_cases c18 : (t879 == t889 && (t880 == t890)) = true
   ·rw [if_pos c18] at H
    have c18b0 : (t879 == t889 && (t880 == t890)) = true := c18
    (try (have c18b1 : decide (t879 = t889 && (t880 == t890)) = true := by simpa using c18))
    (try (have c18b2 : (t879 == t889 && (t880 == t890)) = true := by simpa using c18))
    clear c18
    by_cases c19 : t881 = t891
    ·rw [if_pos c19] at H
     have c19b0 : (t881 == t891) = true := beq_iff_eq.mpr c19
     have c19b1 : (t881 != t891) = false := bne_eq_false_iff_eq.mpr c19
     clear c19
     replace H := Option.bind_eq_some_iff.mp H
     obtain ⟨t923, A200, H⟩ := H
     try dsimp -implicitDefEqProofs -simprocs only at H
     have A20 := Aside0.mk A200
     clear A200
     by_cases c21 : t923 = true
     ·subst c21
      have H1 : (if (t896 == t906 && (t897 == t907)) = true then (if t898 = t908 then ((selvedgeref18_SameAll.f k t910 t917).bind fun t924 => (if t924 = true then (if t913 = t920 then ((selvedgelaw18_few.f k l0).bind fun t925 => ((selvedgeref18_SameAll.f k t873 t925).bind fun t928 => (if t928 = true then (some true) else (none)))) else (none)) else (none))) else (none)) else (none)) = some r := by rw [if_pos rfl] at H; exact H
      clear H
      have H := H1
      clear H1
      by_cases c22 : (t896 == t906 && (t897 == t907)) = true
      ·rw [if_pos c22] at H
       have c22b0 : (t896 == t906 && (t897 == t907)) = true := c22
       (try (have c22b1 : decide (t896 = t906 && (t897 == t907)) = true := by simpa using c22))
       (try (have c22b2 : (t896 == t906 && (t897 == t907)) = true := by simpa using c22))
       clear c22
       by_cases c23 : t898 = t908
       ·rw [if_pos c23] at H
        have c23b0 : (t898 == t908) = true := beq_iff_eq.mpr c23
        have c23b1 : (t898 != t908) = false := bne_eq_false_iff_eq.mpr c23
        clear c23
        replace H := Option.bind_eq_some_iff.mp H
        obtain ⟨t924, A240, H⟩ := H
        try dsimp -implicitDefEqProofs -simprocs only at H
        have A24 := Aside0.mk A240
        clear A240
        by_cases c25 : t924 = true
        ·subst c25
         have H1 : (if t913 = t920 then ((selvedgelaw18_few.f k l0).bind fun t925 => ((selvedgeref18_SameAll.f k t873 t925).bind fun t928 => (if t928 = true then (some true) else (none)))) else (none)) = some r := by rw [if_pos rfl] at H; exact H
         clear H
         have H := H1
         clear H1
         by_cases c26 : t913 = t920
         ·rw [if_pos c26] at H
          have c26b0 : (t913 == t920) = true := beq_iff_eq.mpr c26
          have c26b1 : (t913 != t920) = false := bne_eq_false_iff_eq.mpr c26
          clear c26
          replace H := Option.bind_eq_some_iff.mp H
          obtain ⟨t925, A270, H⟩ := H
          try dsimp -implicitDefEqProofs -simprocs only at H
          have A27 := Aside0.mk A270
          clear A270
          replace H := Option.bind_eq_some_iff.mp H
          obtain ⟨t928, A280, H⟩ := H
          try dsimp -implicitDefEqProofs -simprocs only at H
          have A28 := Aside0.mk A280
          clear A280
          by_cases c29 : t928 = true
          ·subst c29
           have H1 : (some true) = some r := by rw [if_pos rfl] at H; exact H
           clear H
           have H := H1
           clear H1
           obtain rfl := Option.some.inj H
           go_enter Try.func10, Try.ntmps10
           try go_wp2_with (first | ((with_reducible refine gate_dst (N := 5) rfl ?_); refine box_event rfl (N := 5) rfl (cs := #[.int .i64 a2_0, .int .i64 a2_1]) (t := 24) (by first | (go_simp; done) | (go_simp; rfl)) ?_; intro gb872 hg w30 hbox hb; have BK872 := Aside0.mk (hbox); have GW872 := gs HB hg; have GE872 := gs HB hg; replace HB := Aside0.mk (below_step (bl HB) hb); clear hb hbox hg) | ((with_reducible refine gate_callee (f := 12) rfl ?_); refine goesL_ (some 25) rfl rfl Try.func12 (by kernel_rfl) rfl #[.slice A0 l0.length c0] rfl (by simp only [List.map_toArray, List.map_cons, List.map_nil]; first | done | rfl) ?_; (with_reducible refine (selvedgelaw18_few.callsN k (fun k_ => k_ < w.heap.size) _ _ l0 t873 _ ?side1 A4.out).mono ?_); (case side1 => exact Kd.V_mk HC0.out (Kd.F_below (Kd.C_F k42_heap HR0.out) (bs HB (by simp [ag, GE872.out])))); rintro e w31 ⟨v874, rfl, ho0, hb⟩; refine ⟨_, rfl, ?_⟩; have HO875 := Aside0.mk (Kd.N_lower (Kd.N_mono (ok' := fun k_ => k_ ≠ gb872) ho0 (fun k_ hk_ => Or.elim hk_ (fun hs_ => fun e_ => Nat.not_le.2 hs_ (by rw [e_]; exact GW872.out)) (fun hn_ => (fB BK872 k_ hn_)))) (below_size (bs HB (by simp [ag, GE872.out])))); replace BK872 := Aside0.mk (bb BK872 hb); replace HB := Aside0.mk (below_step (bs HB (by simp [ag, GE872.out])) hb); clear ho0 hb; obtain ⟨Ao32, co32, eo32⟩ := Kd.N_slice HO875.out; subst eo32) | ((with_reducible refine gate_callee (f := 40) rfl ?_); refine goesL_ (some 29) rfl rfl Try.func40 (by kernel_rfl) rfl #[.slice Ao32 t873.length co32, .int .i64 a1] rfl (by simp only [List.map_toArray, List.map_cons, List.map_nil]; first | done | rfl) ?_; (with_reducible refine (cyl_File.calls _ _ t873 a1 t876 t879 t880 t881 _ ?side1 ?side2 A5.out).mono ?_); (case side1 => repeat (first | exact (Kd.N_reads' HO875.out).2.2 | (with_reducible refine Kd.C_alloc ?_ _) | (with_reducible refine Kd.C_drewN ?_ _) | (with_reducible refine Kd.C_drew ?_))); (case side2 => exact (Kd.N_reads' HO875.out).2.1); rintro e w33 ⟨v877, rfl, ho0, hb⟩; refine ⟨_, rfl, ?_⟩; have HO878 := Aside0.mk (Kd.N_lower (Kd.N_mono (ok' := fun k_ => some k_ ≠ (.slice Ao32 t873.length co32 : Value).ownBlock ∧ k_ ≠ gb872) (Kd.S_N (Kd.S_bound ho0)) (fun k_ hk_ => ⟨(Kd.fresh' (Kd.N_lt (nk HO875)) k_ hk_.2.1), (fB BK872 k_ hk_.2.1)⟩)) (below_size (bs HB (by simp [ag, GE872.out])))); replace HO875 := Aside0.mk (Kd.N_elder' (nk HO875) (Kd.S_base ho0) hb); replace BK872 := Aside0.mk (bb BK872 hb); replace HB := Aside0.mk (below_step (bs HB (by simp [ag, GE872.out])) hb); clear ho0 hb) | ((with_reducible refine gate_dst (N := 9) rfl ?_); refine box_event rfl (N := 9) rfl (cs := #[.int .i64 0, .int .i64 0]) (t := 24) (by first | (go_simp; done) | (go_simp; rfl)) ?_; intro gb882 hg w34 hbox hb; replace HO875 := Aside0.mk (Kd.N_below (Kd.N_elderB (nk HO875) gb882 (Nat.le_of_eq hg.symm)) hb); replace HO878 := Aside0.mk (Kd.N_below (Kd.N_elderB (nk HO878) gb882 (Nat.le_of_eq hg.symm)) hb); have BK882 := Aside0.mk (hbox); have GW882 := gl HB hg (by simp [ag, GE872.out]); have GE882 := gl HB hg (by simp [ag, GE872.out]); replace HB := Aside0.mk (below_step (bs HB (by simp [ag, GE872.out])) hb); have NB872_882 := nl BK872 hg; have NB882_872 := nt BK872 hg; replace BK872 := Aside0.mk (bb BK872 hb); clear hb hbox hg; have hnb35 := NB882_872.out; have hnc35 := NB872_882.out; obtain ⟨hcz36_0, hcz36_1, hfz36_0, hfz36_1⟩ := cf2 BK882) | ((with_reducible refine gate_store (t := 24) (p := 9) rfl ?_); refine store_event (t := 24) (p := 9) (v := ?vo_w37) (w1 := ((w34.setCell ⟨gb882, 0, none⟩ (.int .i64 t879)).setCell ⟨gb882, 1, none⟩ (.int .i64 t880))) ?hg ?ho ?hn ?hr ?_; (case ho => rfl); (case hg => rfl); (case hn => rfl); (case hr => first | (go_simp; done) | (go_simp; rfl)); intro w37 hw; have n0_ : Aside0 (Kd.N k42 42 w37 w.heap.size (fun k_ => some k_ ≠ (v877 : Value).ownBlock ∧ k_ ≠ gb872 ∧ k_ ≠ gb882) (.slice Ao32 t873.length co32) t873) := ⟨(by rw [hw]; exact (by (with_reducible repeat (first | apply Kd.N_alloc | apply Kd.N_drewN | apply Kd.N_drew)); exact Kd.N_mono (Kd.N_far (p := ⟨gb882, 1, none⟩) (Kd.N_far (p := ⟨gb882, 0, none⟩) (Kd.N_mono HO875.out (fun k_ hk => (⟨hk, hk.2⟩ : _ ∧ k_ ≠ gb882))) (fun _ hk => hk.2) (.int .i64 t879)) (fun _ hk => hk.2) (.int .i64 t880)) (fun _ hk => ⟨hk.1.1.2, ⟨hk.1.1.1, hk.1.2⟩⟩)))⟩; have n1_ : Aside0 (Kd.N k42 42 w37 w.heap.size (fun k_ => some k_ ≠ (.slice Ao32 t873.length co32 : Value).ownBlock ∧ k_ ≠ gb872 ∧ k_ ≠ gb882) v877 t876) := ⟨(by rw [hw]; exact (by (with_reducible repeat (first | apply Kd.N_alloc | apply Kd.N_drewN | apply Kd.N_drew)); exact Kd.N_mono (Kd.N_far (p := ⟨gb882, 1, none⟩) (Kd.N_far (p := ⟨gb882, 0, none⟩) (Kd.N_mono HO878.out (fun k_ hk => (⟨hk, hk.2⟩ : _ ∧ k_ ≠ gb882))) (fun _ hk => hk.2) (.int .i64 t879)) (fun _ hk => hk.2) (.int .i64 t880)) (fun _ hk => ⟨hk.1.1.1, ⟨hk.1.1.2, hk.1.2⟩⟩)))⟩; have n2_ : Aside0 (w37.heap[gb872]? = some (.cells #[.int .i64 a2_0, .int .i64 a2_1] 24 (0, 0))) := ⟨(by rw [hw]; exact (by (with_reducible repeat (first | refine blk_drewN ?_ _ | refine blk_drew ?_ | refine blk_alloc ?_ _)); refine blk_far ?_ NB872_882.out _; (with_reducible repeat (first | refine blk_drewN ?_ _ | refine blk_drew ?_ | refine blk_alloc ?_ _)); refine blk_far ?_ NB872_882.out _; (with_reducible repeat (first | refine blk_drewN ?_ _ | refine blk_drew ?_ | refine blk_alloc ?_ _)); exact BK872.out))⟩; have n3_ : Aside0 (w37.heap[gb882]? = some (.cells #[.int .i64 t879, .int .i64 t880] 24 (0, 0))) := ⟨(by rw [hw]; exact (by (with_reducible repeat (first | refine blk_drewN ?_ _ | refine blk_drew ?_ | refine blk_alloc ?_ _)); refine blk_put (cs := #[.int .i64 t879, .int .i64 0]) ?_ 1 _ rfl; (with_reducible repeat (first | refine blk_drewN ?_ _ | refine blk_drew ?_ | refine blk_alloc ?_ _)); refine blk_put (cs := #[.int .i64 0, .int .i64 0]) ?_ 0 _ rfl; (with_reducible repeat (first | refine blk_drewN ?_ _ | refine blk_drew ?_ | refine blk_alloc ?_ _)); exact BK882.out))⟩; have n4_ : Aside0 (Below w.heap.size w w37) := ⟨(by rw [hw]; exact (bs HB (by simp [ag, GE872.out, GE882.out])))⟩; clear hw; clear HO875; clear HO878; clear BK872; clear BK882; clear HB; have HO875 := n0_; have HO878 := n1_; have BK872 := n2_; have BK882 := n3_; have HB := n4_; clear n0_ n1_ n2_ n3_ n4_) | ((with_reducible refine gate_callee (f := 12) rfl ?_); refine goesL_ (some 35) rfl rfl Try.func12 (by kernel_rfl) rfl #[.slice A0 l0.length c0] rfl (by simp only [List.map_toArray, List.map_cons, List.map_nil]; first | done | rfl) ?_; (with_reducible refine (selvedgelaw18_few.callsN k (fun k_ => k_ < w.heap.size) _ _ l0 t883 _ ?side1 A6.out).mono ?_); (case side1 => exact Kd.V_mk HC0.out (Kd.F_below (Kd.C_F k42_heap HR0.out) (bs HB (by simp [ag, GE872.out, GE882.out])))); rintro e w38 ⟨v884, rfl, ho0, hb⟩; refine ⟨_, rfl, ?_⟩; have HO885 := Aside0.mk (Kd.N_lower (Kd.N_mono (ok' := fun k_ => some k_ ≠ (.slice Ao32 t873.length co32 : Value).ownBlock ∧ some k_ ≠ (v877 : Value).ownBlock ∧ k_ ≠ gb872 ∧ k_ ≠ gb882) ho0 (fun k_ hk_ => ⟨Or.elim hk_ (fun hs_ => fun e_ => Nat.not_le.2 hs_ (Kd.N_base HO875.out k_ e_.symm)) (fun hn_ => (Kd.fresh' (Kd.N_lt (nk HO875)) k_ hn_)), Or.elim hk_ (fun hs_ => fun e_ => Nat.not_le.2 hs_ (Kd.N_base HO878.out k_ e_.symm)) (fun hn_ => (Kd.fresh' (Kd.N_lt (nk HO878)) k_ hn_)), Or.elim hk_ (fun hs_ => fun e_ => Nat.not_le.2 hs_ (by rw [e_]; exact GW872.out)) (fun hn_ => (fB BK872 k_ hn_)), Or.elim hk_ (fun hs_ => fun e_ => Nat.not_le.2 hs_ (by rw [e_]; exact GW882.out)) (fun hn_ => (fB BK882 k_ hn_))⟩)) (below_size (bs HB (by simp [ag, GE872.out, GE882.out])))); replace HO875 := Aside0.mk (Kd.N_elder' (nk HO875) (Kd.N_base ho0) hb); replace HO878 := Aside0.mk (Kd.N_elder' (nk HO878) (Kd.N_base ho0) hb); replace BK872 := Aside0.mk (bb BK872 hb); replace BK882 := Aside0.mk (bb BK882 hb); replace HB := Aside0.mk (below_step (bs HB (by simp [ag, GE872.out, GE882.out])) hb); clear ho0 hb; obtain ⟨Ao39, co39, eo39⟩ := Kd.N_slice HO885.out; subst eo39) | ((with_reducible refine gate_callee (f := 41) rfl ?_); refine goesL_ (some 37) rfl rfl Try.func41 (by kernel_rfl) rfl #[.slice Ao39 t883.length co39, .int .i64 a1] rfl (by simp only [List.map_toArray, List.map_cons, List.map_nil]; first | done | rfl) ?_; (with_reducible refine (selvedgeref18_File.calls k _ _ t883 a1 t886 t889 t890 t891 _ ?side1 ?side2 A7.out).mono ?_); (case side1 => repeat (first | exact (Kd.N_reads' HO885.out).2.2 | (with_reducible refine Kd.C_alloc ?_ _) | (with_reducible refine Kd.C_drewN ?_ _) | (with_reducible refine Kd.C_drew ?_))); (case side2 => exact (Kd.N_reads' HO885.out).2.1); rintro e w40 ⟨v887, rfl, ho0, hb⟩; refine ⟨_, rfl, ?_⟩; have HO888 := Aside0.mk (Kd.N_lower (Kd.N_mono (ok' := fun k_ => some k_ ≠ (.slice Ao32 t873.length co32 : Value).ownBlock ∧ some k_ ≠ (v877 : Value).ownBlock ∧ some k_ ≠ (.slice Ao39 t883.length co39 : Value).ownBlock ∧ k_ ≠ gb872 ∧ k_ ≠ gb882) (Kd.S_N (Kd.S_bound ho0)) (fun k_ hk_ => ⟨(Kd.fresh' (Kd.N_lt (nk HO875)) k_ hk_.2.1), (Kd.fresh' (Kd.N_lt (nk HO878)) k_ hk_.2.1), (Kd.fresh' (Kd.N_lt (nk HO885)) k_ hk_.2.1), (fB BK872 k_ hk_.2.1), (fB BK882 k_ hk_.2.1)⟩)) (below_size (bs HB (by simp [ag, GE872.out, GE882.out])))); replace HO875 := Aside0.mk (Kd.N_elder' (nk HO875) (Kd.S_base ho0) hb); replace HO878 := Aside0.mk (Kd.N_elder' (nk HO878) (Kd.S_base ho0) hb); replace HO885 := Aside0.mk (Kd.N_elder' (nk HO885) (Kd.S_base ho0) hb); replace BK872 := Aside0.mk (bb BK872 hb); replace BK882 := Aside0.mk (bb BK882 hb); replace HB := Aside0.mk (below_step (bs HB (by simp [ag, GE872.out, GE882.out])) hb); clear ho0 hb) | ((with_reducible refine gate_dst (N := 12) rfl ?_); refine box_event rfl (N := 12) rfl (cs := #[.int .i64 0, .int .i64 0]) (t := 24) (by first | (go_simp; done) | (go_simp; rfl)) ?_; intro gb892 hg w41 hbox hb; replace HO875 := Aside0.mk (Kd.N_below (Kd.N_elderB (nk HO875) gb892 (Nat.le_of_eq hg.symm)) hb); replace HO878 := Aside0.mk (Kd.N_below (Kd.N_elderB (nk HO878) gb892 (Nat.le_of_eq hg.symm)) hb); replace HO885 := Aside0.mk (Kd.N_below (Kd.N_elderB (nk HO885) gb892 (Nat.le_of_eq hg.symm)) hb); replace HO888 := Aside0.mk (Kd.N_below (Kd.N_elderB (nk HO888) gb892 (Nat.le_of_eq hg.symm)) hb); have BK892 := Aside0.mk (hbox); have GW892 := gl HB hg (by simp [ag, GE872.out, GE882.out]); have GE892 := gl HB hg (by simp [ag, GE872.out, GE882.out]); replace HB := Aside0.mk (below_step (bs HB (by simp [ag, GE872.out, GE882.out])) hb); have NB872_892 := nl BK872 hg; have NB892_872 := nt BK872 hg; replace BK872 := Aside0.mk (bb BK872 hb); have NB882_892 := nl BK882 hg; have NB892_882 := nt BK882 hg; replace BK882 := Aside0.mk (bb BK882 hb); clear hb hbox hg; have hnb42 := NB892_872.out; have hnc42 := NB872_892.out; have hnb43 := NB892_882.out; have hnc43 := NB882_892.out; obtain ⟨hcz44_0, hcz44_1, hfz44_0, hfz44_1⟩ := cf2 BK892) | ((with_reducible refine gate_callee (f := 23) rfl ?_); refine goesL_ (some 43) rfl rfl Try.func23 (by kernel_rfl) rfl #[.slice Ao32 t873.length co32] rfl (by simp only [List.map_toArray, List.map_cons, List.map_nil]; first | done | rfl) ?_; (with_reducible refine (cyl_Dir.calls k _ _ t873 t893 t896 t897 t898 _ ?side1 ?side2 A8.out).mono ?_); (case side1 => refine (Kd.N_reads' (e := 42) (base := w.heap.size) (ok := fun k_ => ((((some k_ ≠ (v877 : Value).ownBlock ∧ (k_ ≠ gb872 ∧ k_ ≠ gb882)) ∧ some k_ ≠ (.slice Ao39 t883.length co39 : Value).ownBlock) ∧ some k_ ≠ (v887 : Value).ownBlock) ∧ k_ ≠ gb892)) (n := t873.length) (c := co32) ?_).2.2; exact (by (with_reducible repeat (first | apply Kd.N_alloc | apply Kd.N_drewN | apply Kd.N_drew)); exact (Kd.N_mono (Kd.N_far (p := ⟨gb892, 1, none⟩) (Kd.N_far (p := ⟨gb892, 0, none⟩) (Kd.N_mono HO875.out (fun k_ hk => (⟨hk, hk.2⟩ : _ ∧ k_ ≠ gb892))) (fun _ hk => hk.2) (.int .i64 t889)) (fun _ hk => hk.2) (.int .i64 t890)) (fun _ h_ => h_.1)))); (case side2 => exact (Kd.N_reads' HO875.out).2.1); rintro e w45 ⟨v894, rfl, ho0, hb⟩; refine ⟨_, rfl, ?_⟩; have HO895 := Aside0.mk (Kd.N_lower (Kd.N_mono (ok' := fun k_ => some k_ ≠ (.slice Ao32 t873.length co32 : Value).ownBlock ∧ some k_ ≠ (v877 : Value).ownBlock ∧ some k_ ≠ (.slice Ao39 t883.length co39 : Value).ownBlock ∧ some k_ ≠ (v887 : Value).ownBlock ∧ k_ ≠ gb872 ∧ k_ ≠ gb882 ∧ k_ ≠ gb892) (Kd.S_N (Kd.S_bound ho0)) (fun k_ hk_ => ⟨(Kd.fresh' (Kd.N_lt (by (with_reducible repeat (first | apply Kd.N_alloc | apply Kd.N_drewN | apply Kd.N_drew)); exact (Kd.N_mono (Kd.N_far (p := ⟨gb892, 1, none⟩) (Kd.N_far (p := ⟨gb892, 0, none⟩) (Kd.N_mono HO875.out (fun k_ hk => (⟨hk, hk.2⟩ : _ ∧ k_ ≠ gb892))) (fun _ hk => hk.2) (.int .i64 t889)) (fun _ hk => hk.2) (.int .i64 t890)) (fun _ h_ => h_.1)))) k_ hk_.2.1), (Kd.fresh' (Kd.N_lt (by (with_reducible repeat (first | apply Kd.N_alloc | apply Kd.N_drewN | apply Kd.N_drew)); exact (Kd.N_mono (Kd.N_far (p := ⟨gb892, 1, none⟩) (Kd.N_far (p := ⟨gb892, 0, none⟩) (Kd.N_mono HO878.out (fun k_ hk => (⟨hk, hk.2⟩ : _ ∧ k_ ≠ gb892))) (fun _ hk => hk.2) (.int .i64 t889)) (fun _ hk => hk.2) (.int .i64 t890)) (fun _ h_ => h_.1)))) k_ hk_.2.1), (Kd.fresh' (Kd.N_lt (by (with_reducible repeat (first | apply Kd.N_alloc | apply Kd.N_drewN | apply Kd.N_drew)); exact (Kd.N_mono (Kd.N_far (p := ⟨gb892, 1, none⟩) (Kd.N_far (p := ⟨gb892, 0, none⟩) (Kd.N_mono HO885.out (fun k_ hk => (⟨hk, hk.2⟩ : _ ∧ k_ ≠ gb892))) (fun _ hk => hk.2) (.int .i64 t889)) (fun _ hk => hk.2) (.int .i64 t890)) (fun _ h_ => h_.1)))) k_ hk_.2.1), (Kd.fresh' (Kd.N_lt (by (with_reducible repeat (first | apply Kd.N_alloc | apply Kd.N_drewN | apply Kd.N_drew)); exact (Kd.N_mono (Kd.N_far (p := ⟨gb892, 1, none⟩) (Kd.N_far (p := ⟨gb892, 0, none⟩) (Kd.N_mono HO888.out (fun k_ hk => (⟨hk, hk.2⟩ : _ ∧ k_ ≠ gb892))) (fun _ hk => hk.2) (.int .i64 t889)) (fun _ hk => hk.2) (.int .i64 t890)) (fun _ h_ => h_.1)))) k_ hk_.2.1), (Kd.freshB (g := gb872) (o := .cells #[.int .i64 a2_0, .int .i64 a2_1] 24 (0, 0)) (by (with_reducible repeat (first | refine blk_drewN ?_ _ | refine blk_drew ?_ | refine blk_alloc ?_ _)); refine blk_far ?_ NB872_892.out _; (with_reducible repeat (first | refine blk_drewN ?_ _ | refine blk_drew ?_ | refine blk_alloc ?_ _)); refine blk_far ?_ NB872_892.out _; (with_reducible repeat (first | refine blk_drewN ?_ _ | refine blk_drew ?_ | refine blk_alloc ?_ _)); exact BK872.out) k_ hk_.2.1), (Kd.freshB (g := gb882) (o := .cells #[.int .i64 t879, .int .i64 t880] 24 (0, 0)) (by (with_reducible repeat (first | refine blk_drewN ?_ _ | refine blk_drew ?_ | refine blk_alloc ?_ _)); refine blk_far ?_ NB882_892.out _; (with_reducible repeat (first | refine blk_drewN ?_ _ | refine blk_drew ?_ | refine blk_alloc ?_ _)); refine blk_far ?_ NB882_892.out _; (with_reducible repeat (first | refine blk_drewN ?_ _ | refine blk_drew ?_ | refine blk_alloc ?_ _)); exact BK882.out) k_ hk_.2.1), (Kd.freshB (g := gb892) (o := .cells #[.int .i64 t889, .int .i64 t890] 24 (0, 0)) (by (with_reducible repeat (first | refine blk_drewN ?_ _ | refine blk_drew ?_ | refine blk_alloc ?_ _)); refine blk_put (cs := #[.int .i64 t889, .int .i64 0]) ?_ 1 _ rfl; (with_reducible repeat (first | refine blk_drewN ?_ _ | refine blk_drew ?_ | refine blk_alloc ?_ _)); refine blk_put (cs := #[.int .i64 0, .int .i64 0]) ?_ 0 _ rfl; (with_reducible repeat (first | refine blk_drewN ?_ _ | refine blk_drew ?_ | refine blk_alloc ?_ _)); exact BK892.out) k_ hk_.2.1)⟩)) (below_size (bs HB (by simp [ag, GE872.out, GE882.out, GE892.out])))); replace HO875 := Aside0.mk (Kd.N_elder' (by (with_reducible repeat (first | apply Kd.N_alloc | apply Kd.N_drewN | apply Kd.N_drew)); exact (Kd.N_mono (Kd.N_far (p := ⟨gb892, 1, none⟩) (Kd.N_far (p := ⟨gb892, 0, none⟩) (Kd.N_mono HO875.out (fun k_ hk => (⟨hk, hk.2⟩ : _ ∧ k_ ≠ gb892))) (fun _ hk => hk.2) (.int .i64 t889)) (fun _ hk => hk.2) (.int .i64 t890)) (fun _ h_ => h_.1))) (Kd.S_base ho0) hb); replace HO878 := Aside0.mk (Kd.N_elder' (by (with_reducible repeat (first | apply Kd.N_alloc | apply Kd.N_drewN | apply Kd.N_drew)); exact (Kd.N_mono (Kd.N_far (p := ⟨gb892, 1, none⟩) (Kd.N_far (p := ⟨gb892, 0, none⟩) (Kd.N_mono HO878.out (fun k_ hk => (⟨hk, hk.2⟩ : _ ∧ k_ ≠ gb892))) (fun _ hk => hk.2) (.int .i64 t889)) (fun _ hk => hk.2) (.int .i64 t890)) (fun _ h_ => h_.1))) (Kd.S_base ho0) hb); replace HO885 := Aside0.mk (Kd.N_elder' (by (with_reducible repeat (first | apply Kd.N_alloc | apply Kd.N_drewN | apply Kd.N_drew)); exact (Kd.N_mono (Kd.N_far (p := ⟨gb892, 1, none⟩) (Kd.N_far (p := ⟨gb892, 0, none⟩) (Kd.N_mono HO885.out (fun k_ hk => (⟨hk, hk.2⟩ : _ ∧ k_ ≠ gb892))) (fun _ hk => hk.2) (.int .i64 t889)) (fun _ hk => hk.2) (.int .i64 t890)) (fun _ h_ => h_.1))) (Kd.S_base ho0) hb); replace HO888 := Aside0.mk (Kd.N_elder' (by (with_reducible repeat (first | apply Kd.N_alloc | apply Kd.N_drewN | apply Kd.N_drew)); exact (Kd.N_mono (Kd.N_far (p := ⟨gb892, 1, none⟩) (Kd.N_far (p := ⟨gb892, 0, none⟩) (Kd.N_mono HO888.out (fun k_ hk => (⟨hk, hk.2⟩ : _ ∧ k_ ≠ gb892))) (fun _ hk => hk.2) (.int .i64 t889)) (fun _ hk => hk.2) (.int .i64 t890)) (fun _ h_ => h_.1))) (Kd.S_base ho0) hb); replace BK872 := Aside0.mk (blk_below (g := gb872) (o := .cells #[.int .i64 a2_0, .int .i64 a2_1] 24 (0, 0)) (by (with_reducible repeat (first | refine blk_drewN ?_ _ | refine blk_drew ?_ | refine blk_alloc ?_ _)); refine blk_far ?_ NB872_892.out _; (with_reducible repeat (first | refine blk_drewN ?_ _ | refine blk_drew ?_ | refine blk_alloc ?_ _)); refine blk_far ?_ NB872_892.out _; (with_reducible repeat (first | refine blk_drewN ?_ _ | refine blk_drew ?_ | refine blk_alloc ?_ _)); exact BK872.out) hb); replace BK882 := Aside0.mk (blk_below (g := gb882) (o := .cells #[.int .i64 t879, .int .i64 t880] 24 (0, 0)) (by (with_reducible repeat (first | refine blk_drewN ?_ _ | refine blk_drew ?_ | refine blk_alloc ?_ _)); refine blk_far ?_ NB882_892.out _; (with_reducible repeat (first | refine blk_drewN ?_ _ | refine blk_drew ?_ | refine blk_alloc ?_ _)); refine blk_far ?_ NB882_892.out _; (with_reducible repeat (first | refine blk_drewN ?_ _ | refine blk_drew ?_ | refine blk_alloc ?_ _)); exact BK882.out) hb); replace BK892 := Aside0.mk (blk_below (g := gb892) (o := .cells #[.int .i64 t889, .int .i64 t890] 24 (0, 0)) (by (with_reducible repeat (first | refine blk_drewN ?_ _ | refine blk_drew ?_ | refine blk_alloc ?_ _)); refine blk_put (cs := #[.int .i64 t889, .int .i64 0]) ?_ 1 _ rfl; (with_reducible repeat (first | refine blk_drewN ?_ _ | refine blk_drew ?_ | refine blk_alloc ?_ _)); refine blk_put (cs := #[.int .i64 0, .int .i64 0]) ?_ 0 _ rfl; (with_reducible repeat (first | refine blk_drewN ?_ _ | refine blk_drew ?_ | refine blk_alloc ?_ _)); exact BK892.out) hb); replace HB := Aside0.mk (below_step (bs HB (by simp [ag, GE872.out, GE882.out, GE892.out])) hb); clear ho0 hb) | ((with_reducible refine gate_dst (N := 15) rfl ?_); refine box_event rfl (N := 15) rfl (cs := #[.int .i64 0, .int .i64 0]) (t := 24) (by first | (go_simp; done) | (go_simp; rfl)) ?_; intro gb899 hg w46 hbox hb; replace HO875 := Aside0.mk (Kd.N_below (Kd.N_elderB (nk HO875) gb899 (Nat.le_of_eq hg.symm)) hb); replace HO878 := Aside0.mk (Kd.N_below (Kd.N_elderB (nk HO878) gb899 (Nat.le_of_eq hg.symm)) hb); replace HO885 := Aside0.mk (Kd.N_below (Kd.N_elderB (nk HO885) gb899 (Nat.le_of_eq hg.symm)) hb); replace HO888 := Aside0.mk (Kd.N_below (Kd.N_elderB (nk HO888) gb899 (Nat.le_of_eq hg.symm)) hb); replace HO895 := Aside0.mk (Kd.N_below (Kd.N_elderB (nk HO895) gb899 (Nat.le_of_eq hg.symm)) hb); have BK899 := Aside0.mk (hbox); have GW899 := gl HB hg (by simp [ag, GE872.out, GE882.out, GE892.out]); have GE899 := gl HB hg (by simp [ag, GE872.out, GE882.out, GE892.out]); replace HB := Aside0.mk (below_step (bs HB (by simp [ag, GE872.out, GE882.out, GE892.out])) hb); have NB872_899 := nl BK872 hg; have NB899_872 := nt BK872 hg; replace BK872 := Aside0.mk (bb BK872 hb); have NB882_899 := nl BK882 hg; have NB899_882 := nt BK882 hg; replace BK882 := Aside0.mk (bb BK882 hb); have NB892_899 := nl BK892 hg; have NB899_892 := nt BK892 hg; replace BK892 := Aside0.mk (bb BK892 hb); clear hb hbox hg; have hnb47 := NB899_872.out; have hnc47 := NB872_899.out; have hnb48 := NB899_882.out; have hnc48 := NB882_899.out; have hnb49 := NB899_892.out; have hnc49 := NB892_899.out; obtain ⟨hcz50_0, hcz50_1, hfz50_0, hfz50_1⟩ := cf2 BK899) | ((with_reducible refine gate_store (t := 24) (p := 15) rfl ?_); refine store_event (t := 24) (p := 15) (v := ?vo_w51) (w1 := ((w46.setCell ⟨gb899, 0, none⟩ (.int .i64 t896)).setCell ⟨gb899, 1, none⟩ (.int .i64 t897))) ?hg ?ho ?hn ?hr ?_; (case ho => rfl); (case hg => rfl); (case hn => rfl); (case hr => first | (go_simp; done) | (go_simp; rfl)); intro w51 hw; have n0_ : Aside0 (Kd.N k42 42 w51 w.heap.size (fun k_ => some k_ ≠ (v877 : Value).ownBlock ∧ some k_ ≠ (.slice Ao39 t883.length co39 : Value).ownBlock ∧ some k_ ≠ (v887 : Value).ownBlock ∧ some k_ ≠ (v894 : Value).ownBlock ∧ k_ ≠ gb872 ∧ k_ ≠ gb882 ∧ k_ ≠ gb892 ∧ k_ ≠ gb899) (.slice Ao32 t873.length co32) t873) := ⟨(by rw [hw]; exact (by (with_reducible repeat (first | apply Kd.N_alloc | apply Kd.N_drewN | apply Kd.N_drew)); exact Kd.N_mono (Kd.N_far (p := ⟨gb899, 1, none⟩) (Kd.N_far (p := ⟨gb899, 0, none⟩) (Kd.N_mono HO875.out (fun k_ hk => (⟨hk, hk.2⟩ : _ ∧ k_ ≠ gb899))) (fun _ hk => hk.2) (.int .i64 t896)) (fun _ hk => hk.2) (.int .i64 t897)) (fun _ hk => ⟨hk.1.1.1.1.1.1.1, ⟨hk.1.1.1.1.1.2, ⟨hk.1.1.1.1.2, ⟨hk.1.1.2, ⟨hk.1.1.1.1.1.1.2.1, ⟨hk.1.1.1.1.1.1.2.2, ⟨hk.1.1.1.2, hk.1.2⟩⟩⟩⟩⟩⟩⟩)))⟩; have n1_ : Aside0 (Kd.N k42 42 w51 w.heap.size (fun k_ => some k_ ≠ (.slice Ao32 t873.length co32 : Value).ownBlock ∧ some k_ ≠ (.slice Ao39 t883.length co39 : Value).ownBlock ∧ some k_ ≠ (v887 : Value).ownBlock ∧ some k_ ≠ (v894 : Value).ownBlock ∧ k_ ≠ gb872 ∧ k_ ≠ gb882 ∧ k_ ≠ gb892 ∧ k_ ≠ gb899) v877 t876) := ⟨(by rw [hw]; exact (by (with_reducible repeat (first | apply Kd.N_alloc | apply Kd.N_drewN | apply Kd.N_drew)); exact Kd.N_mono (Kd.N_far (p := ⟨gb899, 1, none⟩) (Kd.N_far (p := ⟨gb899, 0, none⟩) (Kd.N_mono HO878.out (fun k_ hk => (⟨hk, hk.2⟩ : _ ∧ k_ ≠ gb899))) (fun _ hk => hk.2) (.int .i64 t896)) (fun _ hk => hk.2) (.int .i64 t897)) (fun _ hk => ⟨hk.1.1.1.1.1.1.1, ⟨hk.1.1.1.1.1.2, ⟨hk.1.1.1.1.2, ⟨hk.1.1.2, ⟨hk.1.1.1.1.1.1.2.1, ⟨hk.1.1.1.1.1.1.2.2, ⟨hk.1.1.1.2, hk.1.2⟩⟩⟩⟩⟩⟩⟩)))⟩; have n2_ : Aside0 (Kd.N k42 42 w51 w.heap.size (fun k_ => some k_ ≠ (.slice Ao32 t873.length co32 : Value).ownBlock ∧ some k_ ≠ (v877 : Value).ownBlock ∧ some k_ ≠ (v887 : Value).ownBlock ∧ some k_ ≠ (v894 : Value).ownBlock ∧ k_ ≠ gb872 ∧ k_ ≠ gb882 ∧ k_ ≠ gb892 ∧ k_ ≠ gb899) (.slice Ao39 t883.length co39) t883) := ⟨(by rw [hw]; exact (by (with_reducible repeat (first | apply Kd.N_alloc | apply Kd.N_drewN | apply Kd.N_drew)); exact Kd.N_mono (Kd.N_far (p := ⟨gb899, 1, none⟩) (Kd.N_far (p := ⟨gb899, 0, none⟩) (Kd.N_mono HO885.out (fun k_ hk => (⟨hk, hk.2⟩ : _ ∧ k_ ≠ gb899))) (fun _ hk => hk.2) (.int .i64 t896)) (fun _ hk => hk.2) (.int .i64 t897)) (fun _ hk => ⟨hk.1.1.1.1.1.1, ⟨hk.1.1.1.1.1.2.1, ⟨hk.1.1.1.1.2, ⟨hk.1.1.2, ⟨hk.1.1.1.1.1.2.2.1, ⟨hk.1.1.1.1.1.2.2.2, ⟨hk.1.1.1.2, hk.1.2⟩⟩⟩⟩⟩⟩⟩)))⟩; have n3_ : Aside0 (Kd.N k42 42 w51 w.heap.size (fun k_ => some k_ ≠ (.slice Ao32 t873.length co32 : Value).ownBlock ∧ some k_ ≠ (v877 : Value).ownBlock ∧ some k_ ≠ (.slice Ao39 t883.length co39 : Value).ownBlock ∧ some k_ ≠ (v894 : Value).ownBlock ∧ k_ ≠ gb872 ∧ k_ ≠ gb882 ∧ k_ ≠ gb892 ∧ k_ ≠ gb899) v887 t886) := ⟨(by rw [hw]; exact (by (with_reducible repeat (first | apply Kd.N_alloc | apply Kd.N_drewN | apply Kd.N_drew)); exact Kd.N_mono (Kd.N_far (p := ⟨gb899, 1, none⟩) (Kd.N_far (p := ⟨gb899, 0, none⟩) (Kd.N_mono HO888.out (fun k_ hk => (⟨hk, hk.2⟩ : _ ∧ k_ ≠ gb899))) (fun _ hk => hk.2) (.int .i64 t896)) (fun _ hk => hk.2) (.int .i64 t897)) (fun _ hk => ⟨hk.1.1.1.1.1, ⟨hk.1.1.1.1.2.1, ⟨hk.1.1.1.1.2.2.1, ⟨hk.1.1.2, ⟨hk.1.1.1.1.2.2.2.1, ⟨hk.1.1.1.1.2.2.2.2, ⟨hk.1.1.1.2, hk.1.2⟩⟩⟩⟩⟩⟩⟩)))⟩; have n4_ : Aside0 (Kd.N k42 42 w51 w.heap.size (fun k_ => some k_ ≠ (.slice Ao32 t873.length co32 : Value).ownBlock ∧ some k_ ≠ (v877 : Value).ownBlock ∧ some k_ ≠ (.slice Ao39 t883.length co39 : Value).ownBlock ∧ some k_ ≠ (v887 : Value).ownBlock ∧ k_ ≠ gb872 ∧ k_ ≠ gb882 ∧ k_ ≠ gb892 ∧ k_ ≠ gb899) v894 t893) := ⟨(by rw [hw]; exact (by (with_reducible repeat (first | apply Kd.N_alloc | apply Kd.N_drewN | apply Kd.N_drew)); exact Kd.N_mono (Kd.N_far (p := ⟨gb899, 1, none⟩) (Kd.N_far (p := ⟨gb899, 0, none⟩) (Kd.N_mono HO895.out (fun k_ hk => (⟨hk, hk.2⟩ : _ ∧ k_ ≠ gb899))) (fun _ hk => hk.2) (.int .i64 t896)) (fun _ hk => hk.2) (.int .i64 t897)) (fun _ hk => ⟨hk.1.1.1, ⟨hk.1.1.2.1, ⟨hk.1.1.2.2.1, ⟨hk.1.1.2.2.2.1, ⟨hk.1.1.2.2.2.2.1, ⟨hk.1.1.2.2.2.2.2.1, ⟨hk.1.1.2.2.2.2.2.2, hk.1.2⟩⟩⟩⟩⟩⟩⟩)))⟩; have n5_ : Aside0 (w51.heap[gb872]? = some (.cells #[.int .i64 a2_0, .int .i64 a2_1] 24 (0, 0))) := ⟨(by rw [hw]; exact (by (with_reducible repeat (first | refine blk_drewN ?_ _ | refine blk_drew ?_ | refine blk_alloc ?_ _)); refine blk_far ?_ NB872_899.out _; (with_reducible repeat (first | refine blk_drewN ?_ _ | refine blk_drew ?_ | refine blk_alloc ?_ _)); refine blk_far ?_ NB872_899.out _; (with_reducible repeat (first | refine blk_drewN ?_ _ | refine blk_drew ?_ | refine blk_alloc ?_ _)); exact BK872.out))⟩; have n6_ : Aside0 (w51.heap[gb882]? = some (.cells #[.int .i64 t879, .int .i64 t880] 24 (0, 0))) := ⟨(by rw [hw]; exact (by (with_reducible repeat (first | refine blk_drewN ?_ _ | refine blk_drew ?_ | refine blk_alloc ?_ _)); refine blk_far ?_ NB882_899.out _; (with_reducible repeat (first | refine blk_drewN ?_ _ | refine blk_drew ?_ | refine blk_alloc ?_ _)); refine blk_far ?_ NB882_899.out _; (with_reducible repeat (first | refine blk_drewN ?_ _ | refine blk_drew ?_ | refine blk_alloc ?_ _)); exact BK882.out))⟩; have n7_ : Aside0 (w51.heap[gb892]? = some (.cells #[.int .i64 t889, .int .i64 t890] 24 (0, 0))) := ⟨(by rw [hw]; exact (by (with_reducible repeat (first | refine blk_drewN ?_ _ | refine blk_drew ?_ | refine blk_alloc ?_ _)); refine blk_far ?_ NB892_899.out _; (with_reducible repeat (first | refine blk_drewN ?_ _ | refine blk_drew ?_ | refine blk_alloc ?_ _)); refine blk_far ?_ NB892_899.out _; (with_reducible repeat (first | refine blk_drewN ?_ _ | refine blk_drew ?_ | refine blk_alloc ?_ _)); exact BK892.out))⟩; have n8_ : Aside0 (w51.heap[gb899]? = some (.cells #[.int .i64 t896, .int .i64 t897] 24 (0, 0))) := ⟨(by rw [hw]; exact (by (with_reducible repeat (first | refine blk_drewN ?_ _ | refine blk_drew ?_ | refine blk_alloc ?_ _)); refine blk_put (cs := #[.int .i64 t896, .int .i64 0]) ?_ 1 _ rfl; (with_reducible repeat (first | refine blk_drewN ?_ _ | refine blk_drew ?_ | refine blk_alloc ?_ _)); refine blk_put (cs := #[.int .i64 0, .int .i64 0]) ?_ 0 _ rfl; (with_reducible repeat (first | refine blk_drewN ?_ _ | refine blk_drew ?_ | refine blk_alloc ?_ _)); exact BK899.out))⟩; have n9_ : Aside0 (Below w.heap.size w w51) := ⟨(by rw [hw]; exact (bs HB (by simp [ag, GE872.out, GE882.out, GE892.out, GE899.out])))⟩; clear hw; clear HO875; clear HO878; clear HO885; clear HO888; clear HO895; clear BK872; clear BK882; clear BK892; clear BK899; clear HB; have HO875 := n0_; have HO878 := n1_; have HO885 := n2_; have HO888 := n3_; have HO895 := n4_; have BK872 := n5_; have BK882 := n6_; have BK892 := n7_; have BK899 := n8_; have HB := n9_; clear n0_ n1_ n2_ n3_ n4_ n5_ n6_ n7_ n8_ n9_) | ((with_reducible refine gate_callee (f := 12) rfl ?_); refine goesL_ (some 49) rfl rfl Try.func12 (by kernel_rfl) rfl #[.slice A0 l0.length c0] rfl (by simp only [List.map_toArray, List.map_cons, List.map_nil]; first | done | rfl) ?_; (with_reducible refine (selvedgelaw18_few.callsN k (fun k_ => k_ < w.heap.size) _ _ l0 t900 _ ?side1 A9.out).mono ?_); (case side1 => exact Kd.V_mk HC0.out (Kd.F_below (Kd.C_F k42_heap HR0.out) (bs HB (by simp [ag, GE872.out, GE882.out, GE892.out, GE899.out])))); rintro e w52 ⟨v901, rfl, ho0, hb⟩; refine ⟨_, rfl, ?_⟩; have HO902 := Aside0.mk (Kd.N_lower (Kd.N_mono (ok' := fun k_ => some k_ ≠ (.slice Ao32 t873.length co32 : Value).ownBlock ∧ some k_ ≠ (v877 : Value).ownBlock ∧ some k_ ≠ (.slice Ao39 t883.length co39 : Value).ownBlock ∧ some k_ ≠ (v887 : Value).ownBlock ∧ some k_ ≠ (v894 : Value).ownBlock ∧ k_ ≠ gb872 ∧ k_ ≠ gb882 ∧ k_ ≠ gb892 ∧ k_ ≠ gb899) ho0 (fun k_ hk_ => ⟨Or.elim hk_ (fun hs_ => fun e_ => Nat.not_le.2 hs_ (Kd.N_base HO875.out k_ e_.symm)) (fun hn_ => (Kd.fresh' (Kd.N_lt (nk HO875)) k_ hn_)), Or.elim hk_ (fun hs_ => fun e_ => Nat.not_le.2 hs_ (Kd.N_base HO878.out k_ e_.symm)) (fun hn_ => (Kd.fresh' (Kd.N_lt (nk HO878)) k_ hn_)), Or.elim hk_ (fun hs_ => fun e_ => Nat.not_le.2 hs_ (Kd.N_base HO885.out k_ e_.symm)) (fun hn_ => (Kd.fresh' (Kd.N_lt (nk HO885)) k_ hn_)), Or.elim hk_ (fun hs_ => fun e_ => Nat.not_le.2 hs_ (Kd.N_base HO888.out k_ e_.symm)) (fun hn_ => (Kd.fresh' (Kd.N_lt (nk HO888)) k_ hn_)), Or.elim hk_ (fun hs_ => fun e_ => Nat.not_le.2 hs_ (Kd.N_base HO895.out k_ e_.symm)) (fun hn_ => (Kd.fresh' (Kd.N_lt (nk HO895)) k_ hn_)), Or.elim hk_ (fun hs_ => fun e_ => Nat.not_le.2 hs_ (by rw [e_]; exact GW872.out)) (fun hn_ => (fB BK872 k_ hn_)), Or.elim hk_ (fun hs_ => fun e_ => Nat.not_le.2 hs_ (by rw [e_]; exact GW882.out)) (fun hn_ => (fB BK882 k_ hn_)), Or.elim hk_ (fun hs_ => fun e_ => Nat.not_le.2 hs_ (by rw [e_]; exact GW892.out)) (fun hn_ => (fB BK892 k_ hn_)), Or.elim hk_ (fun hs_ => fun e_ => Nat.not_le.2 hs_ (by rw [e_]; exact GW899.out)) (fun hn_ => (fB BK899 k_ hn_))⟩)) (below_size (bs HB (by simp [ag, GE872.out, GE882.out, GE892.out, GE899.out])))); replace HO875 := Aside0.mk (Kd.N_elder' (nk HO875) (Kd.N_base ho0) hb); replace HO878 := Aside0.mk (Kd.N_elder' (nk HO878) (Kd.N_base ho0) hb); replace HO885 := Aside0.mk (Kd.N_elder' (nk HO885) (Kd.N_base ho0) hb); replace HO888 := Aside0.mk (Kd.N_elder' (nk HO888) (Kd.N_base ho0) hb); replace HO895 := Aside0.mk (Kd.N_elder' (nk HO895) (Kd.N_base ho0) hb); replace BK872 := Aside0.mk (bb BK872 hb); replace BK882 := Aside0.mk (bb BK882 hb); replace BK892 := Aside0.mk (bb BK892 hb); replace BK899 := Aside0.mk (bb BK899 hb); replace HB := Aside0.mk (below_step (bs HB (by simp [ag, GE872.out, GE882.out, GE892.out, GE899.out])) hb); clear ho0 hb; obtain ⟨Ao53, co53, eo53⟩ := Kd.N_slice HO902.out; subst eo53) | ((with_reducible refine gate_callee (f := 42) rfl ?_); refine goesL_ (some 50) rfl rfl Try.func42 (by kernel_rfl) rfl #[.slice Ao53 t900.length co53] rfl (by simp only [List.map_toArray, List.map_cons, List.map_nil]; first | done | rfl) ?_; (with_reducible refine (selvedgeref18_Dir.calls k _ _ t900 t903 t906 t907 t908 _ ?side1 ?side2 A10.out).mono ?_); (case side1 => repeat (first | exact (Kd.N_reads' HO902.out).2.2 | (with_reducible refine Kd.C_alloc ?_ _) | (with_reducible refine Kd.C_drewN ?_ _) | (with_reducible refine Kd.C_drew ?_))); (case side2 => exact (Kd.N_reads' HO902.out).2.1); rintro e w54 ⟨v904, rfl, ho0, hb⟩; refine ⟨_, rfl, ?_⟩; have HO905 := Aside0.mk (Kd.N_lower (Kd.N_mono (ok' := fun k_ => some k_ ≠ (.slice Ao32 t873.length co32 : Value).ownBlock ∧ some k_ ≠ (v877 : Value).ownBlock ∧ some k_ ≠ (.slice Ao39 t883.length co39 : Value).ownBlock ∧ some k_ ≠ (v887 : Value).ownBlock ∧ some k_ ≠ (v894 : Value).ownBlock ∧ some k_ ≠ (.slice Ao53 t900.length co53 : Value).ownBlock ∧ k_ ≠ gb872 ∧ k_ ≠ gb882 ∧ k_ ≠ gb892 ∧ k_ ≠ gb899) (Kd.S_N (Kd.S_bound ho0)) (fun k_ hk_ => ⟨(Kd.fresh' (Kd.N_lt (nk HO875)) k_ hk_.2.1), (Kd.fresh' (Kd.N_lt (nk HO878)) k_ hk_.2.1), (Kd.fresh' (Kd.N_lt (nk HO885)) k_ hk_.2.1), (Kd.fresh' (Kd.N_lt (nk HO888)) k_ hk_.2.1), (Kd.fresh' (Kd.N_lt (nk HO895)) k_ hk_.2.1), (Kd.fresh' (Kd.N_lt (nk HO902)) k_ hk_.2.1), (fB BK872 k_ hk_.2.1), (fB BK882 k_ hk_.2.1), (fB BK892 k_ hk_.2.1), (fB BK899 k_ hk_.2.1)⟩)) (below_size (bs HB (by simp [ag, GE872.out, GE882.out, GE892.out, GE899.out])))); replace HO875 := Aside0.mk (Kd.N_elder' (nk HO875) (Kd.S_base ho0) hb); replace HO878 := Aside0.mk (Kd.N_elder' (nk HO878) (Kd.S_base ho0) hb); replace HO885 := Aside0.mk (Kd.N_elder' (nk HO885) (Kd.S_base ho0) hb); replace HO888 := Aside0.mk (Kd.N_elder' (nk HO888) (Kd.S_base ho0) hb); replace HO895 := Aside0.mk (Kd.N_elder' (nk HO895) (Kd.S_base ho0) hb); replace HO902 := Aside0.mk (Kd.N_elder' (nk HO902) (Kd.S_base ho0) hb); replace BK872 := Aside0.mk (bb BK872 hb); replace BK882 := Aside0.mk (bb BK882 hb); replace BK892 := Aside0.mk (bb BK892 hb); replace BK899 := Aside0.mk (bb BK899 hb); replace HB := Aside0.mk (below_step (bs HB (by simp [ag, GE872.out, GE882.out, GE892.out, GE899.out])) hb); clear ho0 hb) | ((with_reducible refine gate_dst (N := 18) rfl ?_); refine box_event rfl (N := 18) rfl (cs := #[.int .i64 0, .int .i64 0]) (t := 24) (by first | (go_simp; done) | (go_simp; rfl)) ?_; intro gb909 hg w55 hbox hb; replace HO875 := Aside0.mk (Kd.N_below (Kd.N_elderB (nk HO875) gb909 (Nat.le_of_eq hg.symm)) hb); replace HO878 := Aside0.mk (Kd.N_below (Kd.N_elderB (nk HO878) gb909 (Nat.le_of_eq hg.symm)) hb); replace HO885 := Aside0.mk (Kd.N_below (Kd.N_elderB (nk HO885) gb909 (Nat.le_of_eq hg.symm)) hb); replace HO888 := Aside0.mk (Kd.N_below (Kd.N_elderB (nk HO888) gb909 (Nat.le_of_eq hg.symm)) hb); replace HO895 := Aside0.mk (Kd.N_below (Kd.N_elderB (nk HO895) gb909 (Nat.le_of_eq hg.symm)) hb); replace HO902 := Aside0.mk (Kd.N_below (Kd.N_elderB (nk HO902) gb909 (Nat.le_of_eq hg.symm)) hb); replace HO905 := Aside0.mk (Kd.N_below (Kd.N_elderB (nk HO905) gb909 (Nat.le_of_eq hg.symm)) hb); have BK909 := Aside0.mk (hbox); have GW909 := gl HB hg (by simp [ag, GE872.out, GE882.out, GE892.out, GE899.out]); have GE909 := gl HB hg (by simp [ag, GE872.out, GE882.out, GE892.out, GE899.out]); replace HB := Aside0.mk (below_step (bs HB (by simp [ag, GE872.out, GE882.out, GE892.out, GE899.out])) hb); have NB872_909 := nl BK872 hg; have NB909_872 := nt BK872 hg; replace BK872 := Aside0.mk (bb BK872 hb); have NB882_909 := nl BK882 hg; have NB909_882 := nt BK882 hg; replace BK882 := Aside0.mk (bb BK882 hb); have NB892_909 := nl BK892 hg; have NB909_892 := nt BK892 hg; replace BK892 := Aside0.mk (bb BK892 hb); have NB899_909 := nl BK899 hg; have NB909_899 := nt BK899 hg; replace BK899 := Aside0.mk (bb BK899 hb); clear hb hbox hg; have hnb56 := NB909_872.out; have hnc56 := NB872_909.out; have hnb57 := NB909_882.out; have hnc57 := NB882_909.out; have hnb58 := NB909_892.out; have hnc58 := NB892_909.out; have hnb59 := NB909_899.out; have hnc59 := NB899_909.out; obtain ⟨hcz60_0, hcz60_1, hfz60_0, hfz60_1⟩ := cf2 BK909; obtain ⟨hcz61_0, hcz61_1, hfz61_0, hfz61_1⟩ := cf2 BK872) | ((with_reducible refine gate_callee (f := 43) rfl ?_); refine goesL_ (some 57) rfl rfl Try.func43 (by kernel_rfl) rfl #[.slice Ao32 t873.length co32, .agg #[.int .i64 a2_0, .int .i64 a2_1]] rfl (by (try simp only [List.map_toArray, List.map_cons, List.map_nil]); first | done | rfl | (simp only [List.length_drop, List.length_take]; rfl)) ?_; (with_reducible refine (cyl_Leave.calls k _ _ t873 a2_0 a2_1 t910 t913 _ ?side1 ?side2 A11.out).mono ?_); (case side1 => refine (Kd.N_reads' (e := 42) (base := w.heap.size) (ok := fun k_ => ((((some k_ ≠ (v877 : Value).ownBlock ∧ (some k_ ≠ (.slice Ao39 t883.length co39 : Value).ownBlock ∧ (some k_ ≠ (v887 : Value).ownBlock ∧ (some k_ ≠ (v894 : Value).ownBlock ∧ (k_ ≠ gb872 ∧ (k_ ≠ gb882 ∧ (k_ ≠ gb892 ∧ k_ ≠ gb899))))))) ∧ some k_ ≠ (.slice Ao53 t900.length co53 : Value).ownBlock) ∧ some k_ ≠ (v904 : Value).ownBlock) ∧ k_ ≠ gb909)) (n := t873.length) (c := co32) ?_).2.2; exact (by (with_reducible repeat (first | apply Kd.N_alloc | apply Kd.N_drewN | apply Kd.N_drew)); exact (Kd.N_mono (Kd.N_far (p := ⟨gb909, 1, none⟩) (Kd.N_far (p := ⟨gb909, 0, none⟩) (Kd.N_mono HO875.out (fun k_ hk => (⟨hk, hk.2⟩ : _ ∧ k_ ≠ gb909))) (fun _ hk => hk.2) (.int .i64 t906)) (fun _ hk => hk.2) (.int .i64 t907)) (fun _ h_ => h_.1)))); (case side2 => exact (Kd.N_reads' HO875.out).2.1); rintro e w62 ⟨v911, rfl, ho0, hb⟩; refine ⟨_, rfl, ?_⟩; have HO912 := Aside0.mk (Kd.N_lower (Kd.N_mono (ok' := fun k_ => some k_ ≠ (.slice Ao32 t873.length co32 : Value).ownBlock ∧ some k_ ≠ (v877 : Value).ownBlock ∧ some k_ ≠ (.slice Ao39 t883.length co39 : Value).ownBlock ∧ some k_ ≠ (v887 : Value).ownBlock ∧ some k_ ≠ (v894 : Value).ownBlock ∧ some k_ ≠ (.slice Ao53 t900.length co53 : Value).ownBlock ∧ some k_ ≠ (v904 : Value).ownBlock ∧ k_ ≠ gb872 ∧ k_ ≠ gb882 ∧ k_ ≠ gb892 ∧ k_ ≠ gb899 ∧ k_ ≠ gb909) ho0 (fun k_ hk_ => ⟨(Kd.fresh' (Kd.N_lt (by (with_reducible repeat (first | apply Kd.N_alloc | apply Kd.N_drewN | apply Kd.N_drew)); exact (Kd.N_mono (Kd.N_far (p := ⟨gb909, 1, none⟩) (Kd.N_far (p := ⟨gb909, 0, none⟩) (Kd.N_mono HO875.out (fun k_ hk => (⟨hk, hk.2⟩ : _ ∧ k_ ≠ gb909))) (fun _ hk => hk.2) (.int .i64 t906)) (fun _ hk => hk.2) (.int .i64 t907)) (fun _ h_ => h_.1)))) k_ hk_), (Kd.fresh' (Kd.N_lt (by (with_reducible repeat (first | apply Kd.N_alloc | apply Kd.N_drewN | apply Kd.N_drew)); exact (Kd.N_mono (Kd.N_far (p := ⟨gb909, 1, none⟩) (Kd.N_far (p := ⟨gb909, 0, none⟩) (Kd.N_mono HO878.out (fun k_ hk => (⟨hk, hk.2⟩ : _ ∧ k_ ≠ gb909))) (fun _ hk => hk.2) (.int .i64 t906)) (fun _ hk => hk.2) (.int .i64 t907)) (fun _ h_ => h_.1)))) k_ hk_), (Kd.fresh' (Kd.N_lt (by (with_reducible repeat (first | apply Kd.N_alloc | apply Kd.N_drewN | apply Kd.N_drew)); exact (Kd.N_mono (Kd.N_far (p := ⟨gb909, 1, none⟩) (Kd.N_far (p := ⟨gb909, 0, none⟩) (Kd.N_mono HO885.out (fun k_ hk => (⟨hk, hk.2⟩ : _ ∧ k_ ≠ gb909))) (fun _ hk => hk.2) (.int .i64 t906)) (fun _ hk => hk.2) (.int .i64 t907)) (fun _ h_ => h_.1)))) k_ hk_), (Kd.fresh' (Kd.N_lt (by (with_reducible repeat (first | apply Kd.N_alloc | apply Kd.N_drewN | apply Kd.N_drew)); exact (Kd.N_mono (Kd.N_far (p := ⟨gb909, 1, none⟩) (Kd.N_far (p := ⟨gb909, 0, none⟩) (Kd.N_mono HO888.out (fun k_ hk => (⟨hk, hk.2⟩ : _ ∧ k_ ≠ gb909))) (fun _ hk => hk.2) (.int .i64 t906)) (fun _ hk => hk.2) (.int .i64 t907)) (fun _ h_ => h_.1)))) k_ hk_), (Kd.fresh' (Kd.N_lt (by (with_reducible repeat (first | apply Kd.N_alloc | apply Kd.N_drewN | apply Kd.N_drew)); exact (Kd.N_mono (Kd.N_far (p := ⟨gb909, 1, none⟩) (Kd.N_far (p := ⟨gb909, 0, none⟩) (Kd.N_mono HO895.out (fun k_ hk => (⟨hk, hk.2⟩ : _ ∧ k_ ≠ gb909))) (fun _ hk => hk.2) (.int .i64 t906)) (fun _ hk => hk.2) (.int .i64 t907)) (fun _ h_ => h_.1)))) k_ hk_), (Kd.fresh' (Kd.N_lt (by (with_reducible repeat (first | apply Kd.N_alloc | apply Kd.N_drewN | apply Kd.N_drew)); exact (Kd.N_mono (Kd.N_far (p := ⟨gb909, 1, none⟩) (Kd.N_far (p := ⟨gb909, 0, none⟩) (Kd.N_mono HO902.out (fun k_ hk => (⟨hk, hk.2⟩ : _ ∧ k_ ≠ gb909))) (fun _ hk => hk.2) (.int .i64 t906)) (fun _ hk => hk.2) (.int .i64 t907)) (fun _ h_ => h_.1)))) k_ hk_), (Kd.fresh' (Kd.N_lt (by (with_reducible repeat (first | apply Kd.N_alloc | apply Kd.N_drewN | apply Kd.N_drew)); exact (Kd.N_mono (Kd.N_far (p := ⟨gb909, 1, none⟩) (Kd.N_far (p := ⟨gb909, 0, none⟩) (Kd.N_mono HO905.out (fun k_ hk => (⟨hk, hk.2⟩ : _ ∧ k_ ≠ gb909))) (fun _ hk => hk.2) (.int .i64 t906)) (fun _ hk => hk.2) (.int .i64 t907)) (fun _ h_ => h_.1)))) k_ hk_), (Kd.freshB (g := gb872) (o := .cells #[.int .i64 a2_0, .int .i64 a2_1] 24 (0, 0)) (by (with_reducible repeat (first | refine blk_drewN ?_ _ | refine blk_drew ?_ | refine blk_alloc ?_ _)); refine blk_far ?_ NB872_909.out _; (with_reducible repeat (first | refine blk_drewN ?_ _ | refine blk_drew ?_ | refine blk_alloc ?_ _)); refine blk_far ?_ NB872_909.out _; (with_reducible repeat (first | refine blk_drewN ?_ _ | refine blk_drew ?_ | refine blk_alloc ?_ _)); exact BK872.out) k_ hk_), (Kd.freshB (g := gb882) (o := .cells #[.int .i64 t879, .int .i64 t880] 24 (0, 0)) (by (with_reducible repeat (first | refine blk_drewN ?_ _ | refine blk_drew ?_ | refine blk_alloc ?_ _)); refine blk_far ?_ NB882_909.out _; (with_reducible repeat (first | refine blk_drewN ?_ _ | refine blk_drew ?_ | refine blk_alloc ?_ _)); refine blk_far ?_ NB882_909.out _; (with_reducible repeat (first | refine blk_drewN ?_ _ | refine blk_drew ?_ | refine blk_alloc ?_ _)); exact BK882.out) k_ hk_), (Kd.freshB (g := gb892) (o := .cells #[.int .i64 t889, .int .i64 t890] 24 (0, 0)) (by (with_reducible repeat (first | refine blk_drewN ?_ _ | refine blk_drew ?_ | refine blk_alloc ?_ _)); refine blk_far ?_ NB892_909.out _; (with_reducible repeat (first | refine blk_drewN ?_ _ | refine blk_drew ?_ | refine blk_alloc ?_ _)); refine blk_far ?_ NB892_909.out _; (with_reducible repeat (first | refine blk_drewN ?_ _ | refine blk_drew ?_ | refine blk_alloc ?_ _)); exact BK892.out) k_ hk_), (Kd.freshB (g := gb899) (o := .cells #[.int .i64 t896, .int .i64 t897] 24 (0, 0)) (by (with_reducible repeat (first | refine blk_drewN ?_ _ | refine blk_drew ?_ | refine blk_alloc ?_ _)); refine blk_far ?_ NB899_909.out _; (with_reducible repeat (first | refine blk_drewN ?_ _ | refine blk_drew ?_ | refine blk_alloc ?_ _)); refine blk_far ?_ NB899_909.out _; (with_reducible repeat (first | refine blk_drewN ?_ _ | refine blk_drew ?_ | refine blk_alloc ?_ _)); exact BK899.out) k_ hk_), (Kd.freshB (g := gb909) (o := .cells #[.int .i64 t906, .int .i64 t907] 24 (0, 0)) (by (with_reducible repeat (first | refine blk_drewN ?_ _ | refine blk_drew ?_ | refine blk_alloc ?_ _)); refine blk_put (cs := #[.int .i64 t906, .int .i64 0]) ?_ 1 _ rfl; (with_reducible repeat (first | refine blk_drewN ?_ _ | refine blk_drew ?_ | refine blk_alloc ?_ _)); refine blk_put (cs := #[.int .i64 0, .int .i64 0]) ?_ 0 _ rfl; (with_reducible repeat (first | refine blk_drewN ?_ _ | refine blk_drew ?_ | refine blk_alloc ?_ _)); exact BK909.out) k_ hk_)⟩)) (below_size (bs HB (by simp [ag, GE872.out, GE882.out, GE892.out, GE899.out, GE909.out])))); replace HO875 := Aside0.mk (Kd.N_elder' (by (with_reducible repeat (first | apply Kd.N_alloc | apply Kd.N_drewN | apply Kd.N_drew)); exact (Kd.N_mono (Kd.N_far (p := ⟨gb909, 1, none⟩) (Kd.N_far (p := ⟨gb909, 0, none⟩) (Kd.N_mono HO875.out (fun k_ hk => (⟨hk, hk.2⟩ : _ ∧ k_ ≠ gb909))) (fun _ hk => hk.2) (.int .i64 t906)) (fun _ hk => hk.2) (.int .i64 t907)) (fun _ h_ => h_.1))) (Kd.N_base ho0) hb); replace HO878 := Aside0.mk (Kd.N_elder' (by (with_reducible repeat (first | apply Kd.N_alloc | apply Kd.N_drewN | apply Kd.N_drew)); exact (Kd.N_mono (Kd.N_far (p := ⟨gb909, 1, none⟩) (Kd.N_far (p := ⟨gb909, 0, none⟩) (Kd.N_mono HO878.out (fun k_ hk => (⟨hk, hk.2⟩ : _ ∧ k_ ≠ gb909))) (fun _ hk => hk.2) (.int .i64 t906)) (fun _ hk => hk.2) (.int .i64 t907)) (fun _ h_ => h_.1))) (Kd.N_base ho0) hb); replace HO885 := Aside0.mk (Kd.N_elder' (by (with_reducible repeat (first | apply Kd.N_alloc | apply Kd.N_drewN | apply Kd.N_drew)); exact (Kd.N_mono (Kd.N_far (p := ⟨gb909, 1, none⟩) (Kd.N_far (p := ⟨gb909, 0, none⟩) (Kd.N_mono HO885.out (fun k_ hk => (⟨hk, hk.2⟩ : _ ∧ k_ ≠ gb909))) (fun _ hk => hk.2) (.int .i64 t906)) (fun _ hk => hk.2) (.int .i64 t907)) (fun _ h_ => h_.1))) (Kd.N_base ho0) hb); replace HO888 := Aside0.mk (Kd.N_elder' (by (with_reducible repeat (first | apply Kd.N_alloc | apply Kd.N_drewN | apply Kd.N_drew)); exact (Kd.N_mono (Kd.N_far (p := ⟨gb909, 1, none⟩) (Kd.N_far (p := ⟨gb909, 0, none⟩) (Kd.N_mono HO888.out (fun k_ hk => (⟨hk, hk.2⟩ : _ ∧ k_ ≠ gb909))) (fun _ hk => hk.2) (.int .i64 t906)) (fun _ hk => hk.2) (.int .i64 t907)) (fun _ h_ => h_.1))) (Kd.N_base ho0) hb); replace HO895 := Aside0.mk (Kd.N_elder' (by (with_reducible repeat (first | apply Kd.N_alloc | apply Kd.N_drewN | apply Kd.N_drew)); exact (Kd.N_mono (Kd.N_far (p := ⟨gb909, 1, none⟩) (Kd.N_far (p := ⟨gb909, 0, none⟩) (Kd.N_mono HO895.out (fun k_ hk => (⟨hk, hk.2⟩ : _ ∧ k_ ≠ gb909))) (fun _ hk => hk.2) (.int .i64 t906)) (fun _ hk => hk.2) (.int .i64 t907)) (fun _ h_ => h_.1))) (Kd.N_base ho0) hb); replace HO902 := Aside0.mk (Kd.N_elder' (by (with_reducible repeat (first | apply Kd.N_alloc | apply Kd.N_drewN | apply Kd.N_drew)); exact (Kd.N_mono (Kd.N_far (p := ⟨gb909, 1, none⟩) (Kd.N_far (p := ⟨gb909, 0, none⟩) (Kd.N_mono HO902.out (fun k_ hk => (⟨hk, hk.2⟩ : _ ∧ k_ ≠ gb909))) (fun _ hk => hk.2) (.int .i64 t906)) (fun _ hk => hk.2) (.int .i64 t907)) (fun _ h_ => h_.1))) (Kd.N_base ho0) hb); replace HO905 := Aside0.mk (Kd.N_elder' (by (with_reducible repeat (first | apply Kd.N_alloc | apply Kd.N_drewN | apply Kd.N_drew)); exact (Kd.N_mono (Kd.N_far (p := ⟨gb909, 1, none⟩) (Kd.N_far (p := ⟨gb909, 0, none⟩) (Kd.N_mono HO905.out (fun k_ hk => (⟨hk, hk.2⟩ : _ ∧ k_ ≠ gb909))) (fun _ hk => hk.2) (.int .i64 t906)) (fun _ hk => hk.2) (.int .i64 t907)) (fun _ h_ => h_.1))) (Kd.N_base ho0) hb); replace BK872 := Aside0.mk (blk_below (g := gb872) (o := .cells #[.int .i64 a2_0, .int .i64 a2_1] 24 (0, 0)) (by (with_reducible repeat (first | refine blk_drewN ?_ _ | refine blk_drew ?_ | refine blk_alloc ?_ _)); refine blk_far ?_ NB872_909.out _; (with_reducible repeat (first | refine blk_drewN ?_ _ | refine blk_drew ?_ | refine blk_alloc ?_ _)); refine blk_far ?_ NB872_909.out _; (with_reducible repeat (first | refine blk_drewN ?_ _ | refine blk_drew ?_ | refine blk_alloc ?_ _)); exact BK872.out) hb); replace BK882 := Aside0.mk (blk_below (g := gb882) (o := .cells #[.int .i64 t879, .int .i64 t880] 24 (0, 0)) (by (with_reducible repeat (first | refine blk_drewN ?_ _ | refine blk_drew ?_ | refine blk_alloc ?_ _)); refine blk_far ?_ NB882_909.out _; (with_reducible repeat (first | refine blk_drewN ?_ _ | refine blk_drew ?_ | refine blk_alloc ?_ _)); refine blk_far ?_ NB882_909.out _; (with_reducible repeat (first | refine blk_drewN ?_ _ | refine blk_drew ?_ | refine blk_alloc ?_ _)); exact BK882.out) hb); replace BK892 := Aside0.mk (blk_below (g := gb892) (o := .cells #[.int .i64 t889, .int .i64 t890] 24 (0, 0)) (by (with_reducible repeat (first | refine blk_drewN ?_ _ | refine blk_drew ?_ | refine blk_alloc ?_ _)); refine blk_far ?_ NB892_909.out _; (with_reducible repeat (first | refine blk_drewN ?_ _ | refine blk_drew ?_ | refine blk_alloc ?_ _)); refine blk_far ?_ NB892_909.out _; (with_reducible repeat (first | refine blk_drewN ?_ _ | refine blk_drew ?_ | refine blk_alloc ?_ _)); exact BK892.out) hb); replace BK899 := Aside0.mk (blk_below (g := gb899) (o := .cells #[.int .i64 t896, .int .i64 t897] 24 (0, 0)) (by (with_reducible repeat (first | refine blk_drewN ?_ _ | refine blk_drew ?_ | refine blk_alloc ?_ _)); refine blk_far ?_ NB899_909.out _; (with_reducible repeat (first | refine blk_drewN ?_ _ | refine blk_drew ?_ | refine blk_alloc ?_ _)); refine blk_far ?_ NB899_909.out _; (with_reducible repeat (first | refine blk_drewN ?_ _ | refine blk_drew ?_ | refine blk_alloc ?_ _)); exact BK899.out) hb); replace BK909 := Aside0.mk (blk_below (g := gb909) (o := .cells #[.int .i64 t906, .int .i64 t907] 24 (0, 0)) (by (with_reducible repeat (first | refine blk_drewN ?_ _ | refine blk_drew ?_ | refine blk_alloc ?_ _)); refine blk_put (cs := #[.int .i64 t906, .int .i64 0]) ?_ 1 _ rfl; (with_reducible repeat (first | refine blk_drewN ?_ _ | refine blk_drew ?_ | refine blk_alloc ?_ _)); refine blk_put (cs := #[.int .i64 0, .int .i64 0]) ?_ 0 _ rfl; (with_reducible repeat (first | refine blk_drewN ?_ _ | refine blk_drew ?_ | refine blk_alloc ?_ _)); exact BK909.out) hb); replace HB := Aside0.mk (below_step (bs HB (by simp [ag, GE872.out, GE882.out, GE892.out, GE899.out, GE909.out])) hb); clear ho0 hb))
           have n0_ := Aside0.mk (Kd.N_drew HO875.out)
           have n1_ := Aside0.mk (Kd.N_drew HO878.out)
           have n2_ := Aside0.mk (Kd.N_drew HO885.out)
           have n3_ := Aside0.mk (Kd.N_drew HO888.out)
           have n4_ := Aside0.mk (Kd.N_drew HO895.out)
           have n5_ := Aside0.mk (Kd.N_drew HO902.out)
           have n6_ := Aside0.mk (Kd.N_drew HO905.out)
           have n7_ := Aside0.mk (Kd.N_drew HO912.out)
           have n8_ := Aside0.mk (blk_drew BK872.out)
           have n9_ := Aside0.mk (blk_drew BK882.out)
           have n10_ := Aside0.mk (blk_drew BK892.out)
           have n11_ := Aside0.mk (blk_drew BK899.out)
           have n12_ := Aside0.mk (blk_drew BK909.out)
           have n13_ := Aside0.mk (below_drew1 HB.out)
           clear HO875
           clear HO878
           clear HO885
           clear HO888
           clear HO895
           clear HO902
           clear HO905
           clear HO912
           clear BK872
           clear BK882
           clear BK892
           clear BK899
           clear BK909
           clear HB
           have HO875 := n0_
           have HO878 := n1_
           have HO885 := n2_
           have HO888 := n3_
           have HO895 := n4_
           have HO902 := n5_
           have HO905 := n6_
           have HO912 := n7_
           have BK872 := n8_
           have BK882 := n9_
           have BK892 := n10_
           have BK899 := n11_
           have BK909 := n12_
           have HB := n13_
           clear n0_ n1_ n2_ n3_ n4_ n5_ n6_ n7_ n8_ n9_ n10_ n11_ n12_ n13_
           refine start_ (n := 9) (S := fun w' => w'.cell? ⟨gb872, 0, none⟩ = some (.int .i64 a2_0) ∧ w'.cell? ⟨gb872, 1, none⟩ = some (.int .i64 a2_1)) (ds := []) #[false, false, false, false, false, false, false, false, false] (by kernel_rfl) rfl rfl ⟨(blk_cell BK872.out 0).trans rfl, (blk_cell BK872.out 1).trans rfl⟩ (fun hHeld => ?_); refine with_tabW selvedgelaw18_CylInodes.tab7 selvedgelaw18_CylInodes.bits7 (fun HT_ HW_ => ?_)
           generalize w62.drew = w63 at HO875 HO878 HO885 HO888 HO895 HO902 HO905 HO912 BK872 BK882 BK892 BK899 BK909 HB hHeld ⊢
           refine pure_ (i := 0) (N := some 61) (v := ?_) (a' := ?_) #[true, false, false, false, false, false, false, false, false] rfl rfl (any_of HT_.out (by kernel_rfl)) (fun _ _ _ h => h) (Or.inl ⟨by rfl, ?_⟩) ?_ ?_
           rotate_left
           ·intro w'
            go_simp
            with_reducible rfl
           rotate_left
           ·simp only [Act.put, List.setIfInBounds_toArray, List.set_cons_zero, List.set_cons_succ, i64_w, i32_w]
            rfl
           refine take_ (i := 2) (N := some 63) (v := ?_) (a' := ?_) #[true, false, true, false, false, false, false, false, false] rfl rfl (take_ofW HT_.out HW_.out (by kernel_rfl)) (fun _ _ _ h => h) (Or.inl ⟨by rfl, ?_⟩) hHeld ?_ ?_
           rotate_left
           ·rintro w' ⟨s0, s1⟩
            go_simp
            with_reducible rfl
           rotate_left
           ·simp only [Act.put, List.setIfInBounds_toArray, List.set_cons_zero, List.set_cons_succ, i64_w, i32_w]
            rfl
           refine one_ (i := 1) (N := some 62) #[true, true, true, false, false, false, false, false, false] rfl rfl (one_of HT_.out (by kernel_rfl)) (by decide) (fun K hK => ?_)
           refine goes_ Try.func12 (by kernel_rfl) rfl #[.slice A0 l0.length c0] (by rfl) rfl rfl (by (try simp only [List.map_toArray, List.map_cons, List.map_nil]); first | done | rfl | (simp only [List.length_drop, List.length_take]; rfl)) ?_
           with_reducible refine (selvedgelaw18_few.callsN k (fun k_ => k_ < w.heap.size) _ _ l0 t914 _ ?side1 A12.out).mono ?_
           (case side1 => exact Kd.V_mk HC0.out (Kd.F_below (Kd.C_F k42_heap HR0.out) (bs HB (by simp [ag, GE872.out, GE882.out, GE892.out, GE899.out, GE909.out]))))
           rintro e w64 ⟨v915, rfl, ho0, hb⟩
           refine ⟨_, rfl, ?_⟩
           have n0_ := Aside0.mk (Kd.N_elder' (nk HO875) (Kd.N_base ho0) hb)
           have n1_ := Aside0.mk (Kd.N_elder' (nk HO878) (Kd.N_base ho0) hb)
           have n2_ := Aside0.mk (Kd.N_elder' (nk HO885) (Kd.N_base ho0) hb)
           have n3_ := Aside0.mk (Kd.N_elder' (nk HO888) (Kd.N_base ho0) hb)
           have n4_ := Aside0.mk (Kd.N_elder' (nk HO895) (Kd.N_base ho0) hb)
           have n5_ := Aside0.mk (Kd.N_elder' (nk HO902) (Kd.N_base ho0) hb)
           have n6_ := Aside0.mk (Kd.N_elder' (nk HO905) (Kd.N_base ho0) hb)
           have n7_ := Aside0.mk (Kd.N_elder' (nk HO912) (Kd.N_base ho0) hb)
           have n8_ := Aside0.mk (Kd.N_lower (Kd.N_mono (ok' := fun k_ => some k_ ≠ (.slice Ao32 t873.length co32 : Value).ownBlock ∧ some k_ ≠ (v877 : Value).ownBlock ∧ some k_ ≠ (.slice Ao39 t883.length co39 : Value).ownBlock ∧ some k_ ≠ (v887 : Value).ownBlock ∧ some k_ ≠ (v894 : Value).ownBlock ∧ some k_ ≠ (.slice Ao53 t900.length co53 : Value).ownBlock ∧ some k_ ≠ (v904 : Value).ownBlock ∧ some k_ ≠ (v911 : Value).ownBlock ∧ k_ ≠ gb872 ∧ k_ ≠ gb882 ∧ k_ ≠ gb892 ∧ k_ ≠ gb899 ∧ k_ ≠ gb909) ho0 (fun k_ hk_ => ⟨Or.elim hk_ (fun hs_ => fun e_ => Nat.not_le.2 hs_ (Kd.N_base HO875.out k_ e_.symm)) (fun hn_ => (Kd.fresh' (Kd.N_lt (nk HO875)) k_ hn_)), Or.elim hk_ (fun hs_ => fun e_ => Nat.not_le.2 hs_ (Kd.N_base HO878.out k_ e_.symm)) (fun hn_ => (Kd.fresh' (Kd.N_lt (nk HO878)) k_ hn_)), Or.elim hk_ (fun hs_ => fun e_ => Nat.not_le.2 hs_ (Kd.N_base HO885.out k_ e_.symm)) (fun hn_ => (Kd.fresh' (Kd.N_lt (nk HO885)) k_ hn_)), Or.elim hk_ (fun hs_ => fun e_ => Nat.not_le.2 hs_ (Kd.N_base HO888.out k_ e_.symm)) (fun hn_ => (Kd.fresh' (Kd.N_lt (nk HO888)) k_ hn_)), Or.elim hk_ (fun hs_ => fun e_ => Nat.not_le.2 hs_ (Kd.N_base HO895.out k_ e_.symm)) (fun hn_ => (Kd.fresh' (Kd.N_lt (nk HO895)) k_ hn_)), Or.elim hk_ (fun hs_ => fun e_ => Nat.not_le.2 hs_ (Kd.N_base HO902.out k_ e_.symm)) (fun hn_ => (Kd.fresh' (Kd.N_lt (nk HO902)) k_ hn_)), Or.elim hk_ (fun hs_ => fun e_ => Nat.not_le.2 hs_ (Kd.N_base HO905.out k_ e_.symm)) (fun hn_ => (Kd.fresh' (Kd.N_lt (nk HO905)) k_ hn_)), Or.elim hk_ (fun hs_ => fun e_ => Nat.not_le.2 hs_ (Kd.N_base HO912.out k_ e_.symm)) (fun hn_ => (Kd.fresh' (Kd.N_lt (nk HO912)) k_ hn_)), Or.elim hk_ (fun hs_ => fun e_ => Nat.not_le.2 hs_ (by rw [e_]; exact GW872.out)) (fun hn_ => (fB BK872 k_ hn_)), Or.elim hk_ (fun hs_ => fun e_ => Nat.not_le.2 hs_ (by rw [e_]; exact GW882.out)) (fun hn_ => (fB BK882 k_ hn_)), Or.elim hk_ (fun hs_ => fun e_ => Nat.not_le.2 hs_ (by rw [e_]; exact GW892.out)) (fun hn_ => (fB BK892 k_ hn_)), Or.elim hk_ (fun hs_ => fun e_ => Nat.not_le.2 hs_ (by rw [e_]; exact GW899.out)) (fun hn_ => (fB BK899 k_ hn_)), Or.elim hk_ (fun hs_ => fun e_ => Nat.not_le.2 hs_ (by rw [e_]; exact GW909.out)) (fun hn_ => (fB BK909 k_ hn_))⟩)) (below_size (bs HB (by simp [ag, GE872.out, GE882.out, GE892.out, GE899.out, GE909.out]))))
           have n9_ := Aside0.mk (bb BK872 hb)
           have n10_ := Aside0.mk (bb BK882 hb)
           have n11_ := Aside0.mk (bb BK892 hb)
           have n12_ := Aside0.mk (bb BK899 hb)
           have n13_ := Aside0.mk (bb BK909 hb)
           have n14_ := Aside0.mk (below_step (bs HB (by simp [ag, GE872.out, GE882.out, GE892.out, GE899.out, GE909.out])) hb)
           clear HO875
           clear HO878
           clear HO885
           clear HO888
           clear HO895
           clear HO902
           clear HO905
           clear HO912
           clear BK872
           clear BK882
           clear BK892
           clear BK899
           clear BK909
           clear HB
           have HO875 := n0_
           have HO878 := n1_
           have HO885 := n2_
           have HO888 := n3_
           have HO895 := n4_
           have HO902 := n5_
           have HO905 := n6_
           have HO912 := n7_
           have HO916 := n8_
           have BK872 := n9_
           have BK882 := n10_
           have BK892 := n11_
           have BK899 := n12_
           have BK909 := n13_
           have HB := n14_
           clear n0_ n1_ n2_ n3_ n4_ n5_ n6_ n7_ n8_ n9_ n10_ n11_ n12_ n13_ n14_
           (try clear hb)
           (try clear hb2)
           (try clear hk)
           (try clear hi)
           (try clear ho0)
           obtain ⟨Ao65, co65, eo65⟩ := Kd.N_slice HO916.out
           (first | subst eo65 | (injection eo65 with f1_ f2_ f3_; have f4_ := f1_.symm; have f5_ := f3_.symm; clear f1_ f2_ f3_; subst f4_; subst f5_))
           refine hK.out _ _ ⟨(blk_cell BK872.out 0).trans rfl, (blk_cell BK872.out 1).trans rfl⟩ (fun hHeld => ?_)
           clear hK K
           refine norm_ (a' := ?_) ?_ ?_
           rotate_left
           ·show Act.put _ (some 62) _ = _
            simp only [Act.put, List.setIfInBounds_toArray, List.set_cons_zero, List.set_cons_succ, i64_w, i32_w]
            rfl
           refine one_ (i := 3) (N := some 64) #[true, true, true, true, false, false, false, false, false] rfl rfl (one_of HT_.out (by kernel_rfl)) (by decide) (fun K hK => ?_)
           refine goes_ Try.func44 (by kernel_rfl) rfl #[.slice Ao65 t914.length co65, .agg #[.int .i64 a2_0, .int .i64 a2_1]] (by rfl) rfl rfl (by (try simp only [List.map_toArray, List.map_cons, List.map_nil]); first | done | rfl | (simp only [List.length_drop, List.length_take]; rfl)) ?_
           with_reducible refine (selvedgeref18_Leave.calls k _ _ t914 a2_0 a2_1 t917 t920 _ ?side1 ?side2 A13.out).mono ?_
           (case side1 => repeat (first | exact (Kd.N_reads' HO916.out).2.2 | (with_reducible refine Kd.C_alloc ?_ _) | (with_reducible refine Kd.C_drewN ?_ _) | (with_reducible refine Kd.C_drew ?_)))
           (case side2 => exact (Kd.N_reads' HO916.out).2.1)
           rintro e w66 ⟨v918, rfl, ho0, hb⟩
           refine ⟨_, rfl, ?_⟩
           have n0_ := Aside0.mk (Kd.N_elder' (nk HO875) (Kd.S_base ho0) hb)
           have n1_ := Aside0.mk (Kd.N_elder' (nk HO878) (Kd.S_base ho0) hb)
           have n2_ := Aside0.mk (Kd.N_elder' (nk HO885) (Kd.S_base ho0) hb)
           have n3_ := Aside0.mk (Kd.N_elder' (nk HO888) (Kd.S_base ho0) hb)
           have n4_ := Aside0.mk (Kd.N_elder' (nk HO895) (Kd.S_base ho0) hb)
           have n5_ := Aside0.mk (Kd.N_elder' (nk HO902) (Kd.S_base ho0) hb)
           have n6_ := Aside0.mk (Kd.N_elder' (nk HO905) (Kd.S_base ho0) hb)
           have n7_ := Aside0.mk (Kd.N_elder' (nk HO912) (Kd.S_base ho0) hb)
           have n8_ := Aside0.mk (Kd.N_elder' (nk HO916) (Kd.S_base ho0) hb)
           have n9_ := Aside0.mk (Kd.N_lower (Kd.N_mono (ok' := fun k_ => some k_ ≠ (.slice Ao32 t873.length co32 : Value).ownBlock ∧ some k_ ≠ (v877 : Value).ownBlock ∧ some k_ ≠ (.slice Ao39 t883.length co39 : Value).ownBlock ∧ some k_ ≠ (v887 : Value).ownBlock ∧ some k_ ≠ (v894 : Value).ownBlock ∧ some k_ ≠ (.slice Ao53 t900.length co53 : Value).ownBlock ∧ some k_ ≠ (v904 : Value).ownBlock ∧ some k_ ≠ (v911 : Value).ownBlock ∧ some k_ ≠ (.slice Ao65 t914.length co65 : Value).ownBlock ∧ k_ ≠ gb872 ∧ k_ ≠ gb882 ∧ k_ ≠ gb892 ∧ k_ ≠ gb899 ∧ k_ ≠ gb909) (Kd.S_N (Kd.S_bound ho0)) (fun k_ hk_ => ⟨(Kd.fresh' (Kd.N_lt (nk HO875)) k_ hk_.2.1), (Kd.fresh' (Kd.N_lt (nk HO878)) k_ hk_.2.1), (Kd.fresh' (Kd.N_lt (nk HO885)) k_ hk_.2.1), (Kd.fresh' (Kd.N_lt (nk HO888)) k_ hk_.2.1), (Kd.fresh' (Kd.N_lt (nk HO895)) k_ hk_.2.1), (Kd.fresh' (Kd.N_lt (nk HO902)) k_ hk_.2.1), (Kd.fresh' (Kd.N_lt (nk HO905)) k_ hk_.2.1), (Kd.fresh' (Kd.N_lt (nk HO912)) k_ hk_.2.1), (Kd.fresh' (Kd.N_lt (nk HO916)) k_ hk_.2.1), (fB BK872 k_ hk_.2.1), (fB BK882 k_ hk_.2.1), (fB BK892 k_ hk_.2.1), (fB BK899 k_ hk_.2.1), (fB BK909 k_ hk_.2.1)⟩)) (below_size (bs HB (by simp [ag, GE872.out, GE882.out, GE892.out, GE899.out, GE909.out]))))
           have n10_ := Aside0.mk (bb BK872 hb)
           have n11_ := Aside0.mk (bb BK882 hb)
           have n12_ := Aside0.mk (bb BK892 hb)
           have n13_ := Aside0.mk (bb BK899 hb)
           have n14_ := Aside0.mk (bb BK909 hb)
           have n15_ := Aside0.mk (below_step (bs HB (by simp [ag, GE872.out, GE882.out, GE892.out, GE899.out, GE909.out])) hb)
           clear HO875
           clear HO878
           clear HO885
           clear HO888
           clear HO895
           clear HO902
           clear HO905
           clear HO912
           clear HO916
           clear BK872
           clear BK882
           clear BK892
           clear BK899
           clear BK909
           clear HB
           have HO875 := n0_
           have HO878 := n1_
           have HO885 := n2_
           have HO888 := n3_
           have HO895 := n4_
           have HO902 := n5_
           have HO905 := n6_
           have HO912 := n7_
           have HO916 := n8_
           have HO919 := n9_
           have BK872 := n10_
           have BK882 := n11_
           have BK892 := n12_
           have BK899 := n13_
           have BK909 := n14_
           have HB := n15_
           clear n0_ n1_ n2_ n3_ n4_ n5_ n6_ n7_ n8_ n9_ n10_ n11_ n12_ n13_ n14_ n15_
           (try clear hb)
           (try clear hb2)
           (try clear hk)
           (try clear hi)
           (try clear ho0)
           refine hK.out _ _ ⟨(blk_cell BK872.out 0).trans rfl, (blk_cell BK872.out 1).trans rfl⟩ (fun hHeld => ?_)
           clear hK K
           refine norm_ (a' := ?_) ?_ ?_
           rotate_left
           ·show Act.put _ (some 64) _ = _
            simp only [Act.put, List.setIfInBounds_toArray, List.set_cons_zero, List.set_cons_succ, i64_w, i32_w]
            rfl
           refine pure_ (i := 4) (N := some 60) (v := ?_) (a' := ?_) #[true, true, true, true, true, false, false, false, false] rfl rfl (any_of HT_.out (by kernel_rfl)) (fun _ _ _ h => h) (Or.inl ⟨by rfl, ?_⟩) ?_ ?_
           rotate_left
           ·intro w'
            go_simp
            with_reducible rfl
           rotate_left
           ·simp only [Act.put, List.setIfInBounds_toArray, List.set_cons_zero, List.set_cons_succ, i64_w, i32_w]
            rfl
           refine pure_ (i := 5) (N := some 65) (v := ?_) (a' := ?_) #[true, true, true, true, true, true, false, false, false] rfl rfl (any_of HT_.out (by kernel_rfl)) (fun _ _ _ h => h) (Or.inl ⟨by rfl, ?_⟩) ?_ ?_
           rotate_left
           ·intro w'
            go_simp
            with_reducible rfl
           rotate_left
           ·simp only [Act.put, List.setIfInBounds_toArray, List.set_cons_zero, List.set_cons_succ, i64_w, i32_w]
            rfl
           refine pure_ (i := 6) (N := some 66) (v := ?_) (a' := ?_) #[true, true, true, true, true, true, true, false, false] rfl rfl (any_of HT_.out (by kernel_rfl)) (fun _ _ _ h => h) (Or.inl ⟨by rfl, ?_⟩) ?_ ?_
           rotate_left
           ·intro w'
            go_simp
            with_reducible rfl
           rotate_left
           ·simp only [Act.put, List.setIfInBounds_toArray, List.set_cons_zero, List.set_cons_succ, i64_w, i32_w]
            rfl
           refine pure_ (i := 7) (N := some 22) (v := ?_) (a' := ?_) #[true, true, true, true, true, true, true, true, false] rfl rfl (any_of HT_.out (by kernel_rfl)) (fun _ _ _ h => h) (Or.inl ⟨by rfl, ?_⟩) ?_ ?_
           rotate_left
           ·intro w'
            go_simp
            with_reducible rfl
           rotate_left
           ·simp only [Act.put, List.setIfInBounds_toArray, List.set_cons_zero, List.set_cons_succ, i64_w, i32_w]
            rfl
           refine pure_ (i := 8) (N := some 23) (v := ?_) (a' := ?_) #[true, true, true, true, true, true, true, true, true] rfl rfl (any_of HT_.out (by kernel_rfl)) (fun _ _ _ h => h) (Or.inl ⟨by rfl, ?_⟩) ?_ ?_
           rotate_left
           ·intro w'
            go_simp
            with_reducible rfl
           rotate_left
           ·simp only [Act.put, List.setIfInBounds_toArray, List.set_cons_zero, List.set_cons_succ, i64_w, i32_w]
            rfl
           refine done_ (done_of HT_.out (by kernel_rfl)) ?_
           try go_wp2_with (first | ((with_reducible refine gate_callee (f := 17) rfl ?_); refine goesL_ (some 67) rfl rfl Try.func17 (by kernel_rfl) rfl #[] rfl (by simp only [List.map_toArray, List.map_cons, List.map_nil]; first | done | rfl) ?_; (with_reducible refine (selvedgelaw18_live.calls  true _ A14.out).mono ?_); rintro e w67 ⟨rfl, hb⟩; refine ⟨_, rfl, ?_⟩; replace HO875 := Aside0.mk (Kd.N_below (nk HO875) hb); replace HO878 := Aside0.mk (Kd.N_below (nk HO878) hb); replace HO885 := Aside0.mk (Kd.N_below (nk HO885) hb); replace HO888 := Aside0.mk (Kd.N_below (nk HO888) hb); replace HO895 := Aside0.mk (Kd.N_below (nk HO895) hb); replace HO902 := Aside0.mk (Kd.N_below (nk HO902) hb); replace HO905 := Aside0.mk (Kd.N_below (nk HO905) hb); replace HO912 := Aside0.mk (Kd.N_below (nk HO912) hb); replace HO916 := Aside0.mk (Kd.N_below (nk HO916) hb); replace HO919 := Aside0.mk (Kd.N_below (nk HO919) hb); replace BK872 := Aside0.mk (bb BK872 hb); replace BK882 := Aside0.mk (bb BK882 hb); replace BK892 := Aside0.mk (bb BK892 hb); replace BK899 := Aside0.mk (bb BK899 hb); replace BK909 := Aside0.mk (bb BK909 hb); replace HB := Aside0.mk (below_step (bs HB (by simp [ag, GE872.out, GE882.out, GE892.out, GE899.out, GE909.out])) hb); (try clear hb); (try clear hb2); (try clear hk); (try clear hi); obtain ⟨Ao68, co68, eo68⟩ := Kd.N_slice HO878.out; subst eo68; obtain ⟨Ao69, co69, eo69⟩ := Kd.N_slice HO888.out; subst eo69) | (go_at_call 18; (with_reducible refine (selvedgeref18_SameAll.calls k _ _ t876 _ _ t886 true _ ?side1 ?side2 ?side3 ?side4 A16.out).mono ?_); (case side1 => repeat (first | exact (Kd.N_reads' HO878.out).2.2 | (with_reducible refine Kd.C_alloc ?_ _) | (with_reducible refine Kd.C_drewN ?_ _) | (with_reducible refine Kd.C_drew ?_))); (case side2 => exact (Kd.N_reads' HO878.out).2.1); (case side3 => repeat (first | exact (Kd.N_reads' HO888.out).2.2 | (with_reducible refine Kd.C_alloc ?_ _) | (with_reducible refine Kd.C_drewN ?_ _) | (with_reducible refine Kd.C_drew ?_))); (case side4 => exact (Kd.N_reads' HO888.out).2.1); rintro e w70 ⟨rfl, hb⟩; replace HO875 := Aside0.mk (Kd.N_below (nk HO875) hb); replace HO878 := Aside0.mk (Kd.N_below (nk HO878) hb); replace HO885 := Aside0.mk (Kd.N_below (nk HO885) hb); replace HO888 := Aside0.mk (Kd.N_below (nk HO888) hb); replace HO895 := Aside0.mk (Kd.N_below (nk HO895) hb); replace HO902 := Aside0.mk (Kd.N_below (nk HO902) hb); replace HO905 := Aside0.mk (Kd.N_below (nk HO905) hb); replace HO912 := Aside0.mk (Kd.N_below (nk HO912) hb); replace HO916 := Aside0.mk (Kd.N_below (nk HO916) hb); replace HO919 := Aside0.mk (Kd.N_below (nk HO919) hb); replace BK872 := Aside0.mk (bb BK872 hb); replace BK882 := Aside0.mk (bb BK882 hb); replace BK892 := Aside0.mk (bb BK892 hb); replace BK899 := Aside0.mk (bb BK899 hb); replace BK909 := Aside0.mk (bb BK909 hb); replace HB := Aside0.mk (below_step (bs HB (by simp [ag, GE872.out, GE882.out, GE892.out, GE899.out, GE909.out])) hb); (try clear hb); (try clear hb2); (try clear hk); (try clear hi); obtain ⟨hcz71_0, hcz71_1, hfz71_0, hfz71_1⟩ := cf2 BK882; obtain ⟨hcz72_0, hcz72_1, hfz72_0, hfz72_1⟩ := cf2 BK892; obtain ⟨Ao73, co73, eo73⟩ := Kd.N_slice HO895.out; subst eo73; obtain ⟨Ao74, co74, eo74⟩ := Kd.N_slice HO905.out; subst eo74) | (go_at_call 18; (with_reducible refine (selvedgeref18_SameAll.calls k _ _ t893 _ _ t903 true _ ?side1 ?side2 ?side3 ?side4 A20.out).mono ?_); (case side1 => repeat (first | exact (Kd.N_reads' HO895.out).2.2 | (with_reducible refine Kd.C_alloc ?_ _) | (with_reducible refine Kd.C_drewN ?_ _) | (with_reducible refine Kd.C_drew ?_))); (case side2 => exact (Kd.N_reads' HO895.out).2.1); (case side3 => repeat (first | exact (Kd.N_reads' HO905.out).2.2 | (with_reducible refine Kd.C_alloc ?_ _) | (with_reducible refine Kd.C_drewN ?_ _) | (with_reducible refine Kd.C_drew ?_))); (case side4 => exact (Kd.N_reads' HO905.out).2.1); rintro e w75 ⟨rfl, hb⟩; replace HO875 := Aside0.mk (Kd.N_below (nk HO875) hb); replace HO878 := Aside0.mk (Kd.N_below (nk HO878) hb); replace HO885 := Aside0.mk (Kd.N_below (nk HO885) hb); replace HO888 := Aside0.mk (Kd.N_below (nk HO888) hb); replace HO895 := Aside0.mk (Kd.N_below (nk HO895) hb); replace HO902 := Aside0.mk (Kd.N_below (nk HO902) hb); replace HO905 := Aside0.mk (Kd.N_below (nk HO905) hb); replace HO912 := Aside0.mk (Kd.N_below (nk HO912) hb); replace HO916 := Aside0.mk (Kd.N_below (nk HO916) hb); replace HO919 := Aside0.mk (Kd.N_below (nk HO919) hb); replace BK872 := Aside0.mk (bb BK872 hb); replace BK882 := Aside0.mk (bb BK882 hb); replace BK892 := Aside0.mk (bb BK892 hb); replace BK899 := Aside0.mk (bb BK899 hb); replace BK909 := Aside0.mk (bb BK909 hb); replace HB := Aside0.mk (below_step (bs HB (by simp [ag, GE872.out, GE882.out, GE892.out, GE899.out, GE909.out])) hb); (try clear hb); (try clear hb2); (try clear hk); (try clear hi); obtain ⟨hcz76_0, hcz76_1, hfz76_0, hfz76_1⟩ := cf2 BK899; obtain ⟨hcz77_0, hcz77_1, hfz77_0, hfz77_1⟩ := cf2 BK909; obtain ⟨Ao78, co78, eo78⟩ := Kd.N_slice HO912.out; subst eo78; obtain ⟨Ao79, co79, eo79⟩ := Kd.N_slice HO919.out; subst eo79) | (go_at_call 18; (with_reducible refine (selvedgeref18_SameAll.calls k _ _ t910 _ _ t917 true _ ?side1 ?side2 ?side3 ?side4 A24.out).mono ?_); (case side1 => repeat (first | exact (Kd.N_reads' HO912.out).2.2 | (with_reducible refine Kd.C_alloc ?_ _) | (with_reducible refine Kd.C_drewN ?_ _) | (with_reducible refine Kd.C_drew ?_))); (case side2 => exact (Kd.N_reads' HO912.out).2.1); (case side3 => repeat (first | exact (Kd.N_reads' HO919.out).2.2 | (with_reducible refine Kd.C_alloc ?_ _) | (with_reducible refine Kd.C_drewN ?_ _) | (with_reducible refine Kd.C_drew ?_))); (case side4 => exact (Kd.N_reads' HO919.out).2.1); rintro e w80 ⟨rfl, hb⟩; replace HO875 := Aside0.mk (Kd.N_below (nk HO875) hb); replace HO878 := Aside0.mk (Kd.N_below (nk HO878) hb); replace HO885 := Aside0.mk (Kd.N_below (nk HO885) hb); replace HO888 := Aside0.mk (Kd.N_below (nk HO888) hb); replace HO895 := Aside0.mk (Kd.N_below (nk HO895) hb); replace HO902 := Aside0.mk (Kd.N_below (nk HO902) hb); replace HO905 := Aside0.mk (Kd.N_below (nk HO905) hb); replace HO912 := Aside0.mk (Kd.N_below (nk HO912) hb); replace HO916 := Aside0.mk (Kd.N_below (nk HO916) hb); replace HO919 := Aside0.mk (Kd.N_below (nk HO919) hb); replace BK872 := Aside0.mk (bb BK872 hb); replace BK882 := Aside0.mk (bb BK882 hb); replace BK892 := Aside0.mk (bb BK892 hb); replace BK899 := Aside0.mk (bb BK899 hb); replace BK909 := Aside0.mk (bb BK909 hb); replace HB := Aside0.mk (below_step (bs HB (by simp [ag, GE872.out, GE882.out, GE892.out, GE899.out, GE909.out])) hb); (try clear hb); (try clear hb2); (try clear hk); (try clear hi)) | (go_at_call 12; (with_reducible refine (selvedgelaw18_few.callsN k (fun k_ => k_ < w.heap.size) _ _ l0 t925 _ ?side1 A27.out).mono ?_); (case side1 => exact Kd.V_mk HC0.out (Kd.F_below (Kd.C_F k42_heap HR0.out) (bs HB (by simp [ag, GE872.out, GE882.out, GE892.out, GE899.out, GE909.out])))); rintro e w81 ⟨v926, rfl, ho0, hb⟩; have HO927 := Aside0.mk (Kd.N_lower (Kd.N_mono (ok' := fun k_ => some k_ ≠ (.slice Ao32 t873.length co32 : Value).ownBlock ∧ some k_ ≠ (.slice Ao68 t876.length co68 : Value).ownBlock ∧ some k_ ≠ (.slice Ao39 t883.length co39 : Value).ownBlock ∧ some k_ ≠ (.slice Ao69 t886.length co69 : Value).ownBlock ∧ some k_ ≠ (.slice Ao73 t893.length co73 : Value).ownBlock ∧ some k_ ≠ (.slice Ao53 t900.length co53 : Value).ownBlock ∧ some k_ ≠ (.slice Ao74 t903.length co74 : Value).ownBlock ∧ some k_ ≠ (.slice Ao78 t910.length co78 : Value).ownBlock ∧ some k_ ≠ (.slice Ao65 t914.length co65 : Value).ownBlock ∧ some k_ ≠ (.slice Ao79 t917.length co79 : Value).ownBlock ∧ k_ ≠ gb872 ∧ k_ ≠ gb882 ∧ k_ ≠ gb892 ∧ k_ ≠ gb899 ∧ k_ ≠ gb909) ho0 (fun k_ hk_ => ⟨Or.elim hk_ (fun hs_ => fun e_ => Nat.not_le.2 hs_ (Kd.N_base HO875.out k_ e_.symm)) (fun hn_ => (Kd.fresh' (Kd.N_lt (nk HO875)) k_ hn_)), Or.elim hk_ (fun hs_ => fun e_ => Nat.not_le.2 hs_ (Kd.N_base HO878.out k_ e_.symm)) (fun hn_ => (Kd.fresh' (Kd.N_lt (nk HO878)) k_ hn_)), Or.elim hk_ (fun hs_ => fun e_ => Nat.not_le.2 hs_ (Kd.N_base HO885.out k_ e_.symm)) (fun hn_ => (Kd.fresh' (Kd.N_lt (nk HO885)) k_ hn_)), Or.elim hk_ (fun hs_ => fun e_ => Nat.not_le.2 hs_ (Kd.N_base HO888.out k_ e_.symm)) (fun hn_ => (Kd.fresh' (Kd.N_lt (nk HO888)) k_ hn_)), Or.elim hk_ (fun hs_ => fun e_ => Nat.not_le.2 hs_ (Kd.N_base HO895.out k_ e_.symm)) (fun hn_ => (Kd.fresh' (Kd.N_lt (nk HO895)) k_ hn_)), Or.elim hk_ (fun hs_ => fun e_ => Nat.not_le.2 hs_ (Kd.N_base HO902.out k_ e_.symm)) (fun hn_ => (Kd.fresh' (Kd.N_lt (nk HO902)) k_ hn_)), Or.elim hk_ (fun hs_ => fun e_ => Nat.not_le.2 hs_ (Kd.N_base HO905.out k_ e_.symm)) (fun hn_ => (Kd.fresh' (Kd.N_lt (nk HO905)) k_ hn_)), Or.elim hk_ (fun hs_ => fun e_ => Nat.not_le.2 hs_ (Kd.N_base HO912.out k_ e_.symm)) (fun hn_ => (Kd.fresh' (Kd.N_lt (nk HO912)) k_ hn_)), Or.elim hk_ (fun hs_ => fun e_ => Nat.not_le.2 hs_ (Kd.N_base HO916.out k_ e_.symm)) (fun hn_ => (Kd.fresh' (Kd.N_lt (nk HO916)) k_ hn_)), Or.elim hk_ (fun hs_ => fun e_ => Nat.not_le.2 hs_ (Kd.N_base HO919.out k_ e_.symm)) (fun hn_ => (Kd.fresh' (Kd.N_lt (nk HO919)) k_ hn_)), Or.elim hk_ (fun hs_ => fun e_ => Nat.not_le.2 hs_ (by rw [e_]; exact GW872.out)) (fun hn_ => (fB BK872 k_ hn_)), Or.elim hk_ (fun hs_ => fun e_ => Nat.not_le.2 hs_ (by rw [e_]; exact GW882.out)) (fun hn_ => (fB BK882 k_ hn_)), Or.elim hk_ (fun hs_ => fun e_ => Nat.not_le.2 hs_ (by rw [e_]; exact GW892.out)) (fun hn_ => (fB BK892 k_ hn_)), Or.elim hk_ (fun hs_ => fun e_ => Nat.not_le.2 hs_ (by rw [e_]; exact GW899.out)) (fun hn_ => (fB BK899 k_ hn_)), Or.elim hk_ (fun hs_ => fun e_ => Nat.not_le.2 hs_ (by rw [e_]; exact GW909.out)) (fun hn_ => (fB BK909 k_ hn_))⟩)) (below_size (bs HB (by simp [ag, GE872.out, GE882.out, GE892.out, GE899.out, GE909.out])))); replace HO875 := Aside0.mk (Kd.N_elder' (nk HO875) (Kd.N_base ho0) hb); replace HO878 := Aside0.mk (Kd.N_elder' (nk HO878) (Kd.N_base ho0) hb); replace HO885 := Aside0.mk (Kd.N_elder' (nk HO885) (Kd.N_base ho0) hb); replace HO888 := Aside0.mk (Kd.N_elder' (nk HO888) (Kd.N_base ho0) hb); replace HO895 := Aside0.mk (Kd.N_elder' (nk HO895) (Kd.N_base ho0) hb); replace HO902 := Aside0.mk (Kd.N_elder' (nk HO902) (Kd.N_base ho0) hb); replace HO905 := Aside0.mk (Kd.N_elder' (nk HO905) (Kd.N_base ho0) hb); replace HO912 := Aside0.mk (Kd.N_elder' (nk HO912) (Kd.N_base ho0) hb); replace HO916 := Aside0.mk (Kd.N_elder' (nk HO916) (Kd.N_base ho0) hb); replace HO919 := Aside0.mk (Kd.N_elder' (nk HO919) (Kd.N_base ho0) hb); replace BK872 := Aside0.mk (bb BK872 hb); replace BK882 := Aside0.mk (bb BK882 hb); replace BK892 := Aside0.mk (bb BK892 hb); replace BK899 := Aside0.mk (bb BK899 hb); replace BK909 := Aside0.mk (bb BK909 hb); replace HB := Aside0.mk (below_step (bs HB (by simp [ag, GE872.out, GE882.out, GE892.out, GE899.out, GE909.out])) hb); clear ho0 hb; obtain ⟨Ao82, co82, eo82⟩ := Kd.N_slice HO927.out; subst eo82) | (go_at_call 18; (with_reducible refine (selvedgeref18_SameAll.calls k _ _ t873 _ _ t925 true _ ?side1 ?side2 ?side3 ?side4 A28.out).mono ?_); (case side1 => repeat (first | exact (Kd.N_reads' HO875.out).2.2 | (with_reducible refine Kd.C_alloc ?_ _) | (with_reducible refine Kd.C_drewN ?_ _) | (with_reducible refine Kd.C_drew ?_))); (case side2 => exact (Kd.N_reads' HO875.out).2.1); (case side3 => repeat (first | exact (Kd.N_reads' HO927.out).2.2 | (with_reducible refine Kd.C_alloc ?_ _) | (with_reducible refine Kd.C_drewN ?_ _) | (with_reducible refine Kd.C_drew ?_))); (case side4 => exact (Kd.N_reads' HO927.out).2.1); rintro e w83 ⟨rfl, hb⟩; replace HO875 := Aside0.mk (Kd.N_below (nk HO875) hb); replace HO878 := Aside0.mk (Kd.N_below (nk HO878) hb); replace HO885 := Aside0.mk (Kd.N_below (nk HO885) hb); replace HO888 := Aside0.mk (Kd.N_below (nk HO888) hb); replace HO895 := Aside0.mk (Kd.N_below (nk HO895) hb); replace HO902 := Aside0.mk (Kd.N_below (nk HO902) hb); replace HO905 := Aside0.mk (Kd.N_below (nk HO905) hb); replace HO912 := Aside0.mk (Kd.N_below (nk HO912) hb); replace HO916 := Aside0.mk (Kd.N_below (nk HO916) hb); replace HO919 := Aside0.mk (Kd.N_below (nk HO919) hb); replace HO927 := Aside0.mk (Kd.N_below (nk HO927) hb); replace BK872 := Aside0.mk (bb BK872 hb); replace BK882 := Aside0.mk (bb BK882 hb); replace BK892 := Aside0.mk (bb BK892 hb); replace BK899 := Aside0.mk (bb BK899 hb); replace BK909 := Aside0.mk (bb BK909 hb); replace HB := Aside0.mk (below_step (bs HB (by simp [ag, GE872.out, GE882.out, GE892.out, GE899.out, GE909.out])) hb); (try clear hb); (try clear hb2); (try clear hk); (try clear hi)))
           go_ret
           exact ⟨by first | rfl | (simp [errW_none, errW_some] <;> rfl) | (simp [*, errW_none, errW_some] <;> rfl), bs HB (by simp [ag, GE872.out, GE882.out, GE892.out, GE899.out, GE909.out])⟩
          ·replace c29 := Bool.eq_false_iff.mpr c29
           subst c29
           have H1 : (none) = some r := by rw [if_neg (show ¬ (false = true) by decide)] at H; exact H
           clear H
           have H := H1
           clear H1
           exact absurd H (by simp)
         ·rw [if_neg c26] at H
          exact absurd H (by simp)
        ·replace c25 := Bool.eq_false_iff.mpr c25
         subst c25
         have H1 : (none) = some r := by rw [if_neg (show ¬ (false = true) by decide)] at H; exact H
         clear H
         have H := H1
         clear H1
         exact absurd H (by simp)
       ·rw [if_neg c23] at H
        exact absurd H (by simp)
      ·rw [if_neg c22] at H
       exact absurd H (by simp)
     ·replace c21 := Bool.eq_false_iff.mpr c21
      subst c21
      have H1 : (none) = some r := by rw [if_neg (show ¬ (false = true) by decide)] at H; exact H
      clear H
      have H := H1
      clear H1
      exact absurd H (by simp)
    ·rw [if_neg c19] at H
     exact absurd H (by simp)
   ·rw [if_neg c18] at H
    exact absurd H (by simp)
  ·replace c17 := Bool.eq_false_iff.mpr c17
   subst c17
   have H1 : (none) = some r := by rw [if_neg (show ¬ (false = true) by decide)] at H; exact H
   clear H
   have H := H1
   clear H1
   exact absurd H (by simp)
 ·replace c15 := Bool.eq_false_iff.mpr c15
  subst c15
  have H1 : (none) = some r := by rw [if_neg (show ¬ (false = true) by decide)] at H; exact H
  clear H
  have H := H1
  clear H1
  exact absurd H (by simp)

-- NOT PRINTED: function 11 (selvedgetop_TopNeighbours)


end Go.Proofs.Ytehjmmedghcndaa.PG
