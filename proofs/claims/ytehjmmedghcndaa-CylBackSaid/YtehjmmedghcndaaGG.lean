import Derived.Test.YtehjmmedghcndaaPGx0
import Derived.Test.YtehjmmedghcndaaCK
import Derived.Test.YtehjmmedghcndaaG5
import Derived.Test.YtehjmmedghcndaaCL
import Derived.Test.YtehjmmedghcndaaCB
import Derived.Test.YtehjmmedghcndaaLT
namespace Go.Proofs.Ytehjmmedghcndaa.PG
open Go.RowKit Go.Proofs.YtehjmmedghcndaaW.PrintWords Go.Proofs.YtehjmmedghcndaaW.PrintLast Go.Proofs.YtehjmmedghcndaaW.PrintMore
attribute [local go_sem] max2_int min2_int max_two min_two max_three min_three max_four min_four run_store_one   -- for this text's walks alone
set_option linter.unusedVariables false
set_option linter.unusedSimpArgs false
/-! ### selvedgelaw18_CylBack: function 8 -/
mutual
def selvedgelaw18_CylBack.j1 : Nat → List Int → Option (Bool)
 | 0, _ => none
 | k + 1, x1 => (cyl_Decode.f x1).bind fun bt729 => (if bt729.2.2.2.2.2.2.2 = 0 then ((cyl_Encode.f bt729.1 bt729.2.1 bt729.2.2.1 bt729.2.2.2.1 bt729.2.2.2.2.1 bt729.2.2.2.2.2.1 bt729.2.2.2.2.2.2.1).bind fun bt742 => ((selvedgelaw18_live.f).bind fun t746 => (if t746 = true then (if bt742.2 = 0 then (if (strOfNums bt742.1).toList = (strOfNums x1).toList then (some true) else (none)) else (none)) else (none)))) else ((selvedgelaw18_live.f).bind fun t747 => (if t747 = true then (if bt729.2.2.2.2.2.2.2 = 3 then (if (bt729.2.2.2.2.2.1.length : Int) = 0 then (some true) else (none)) else (none)) else (none))))
def selvedgelaw18_CylBack.j0 : Nat → List Int → List Int → Bool → Int → Int → Int → Int → Int → List Int → List Int → Int → Int → Option (Bool)
 | 0, _, _, _, _, _, _, _, _, _, _, _, _ => none
 | k + 1, x1, x7, x44, x677000, x677001, x677002, x677003, x677004, x677005, x677006, x678000, x678001 => if x44 = true then (none) else (if x678001 = 0 then (selvedgelaw18_CylBack.j1 k x1) else ((some (([] : List Int) : List Int)).bind fun y707 => (if y707.length + x7.length < 140737488355328 then ((some (y707 ++ x7 : List Int)).bind fun y710 => (if 0 ≤ (Int.tmod x678000 32) then (if (Int.tmod x678000 32) < (y710.length : Int) then ((cyl_Decode.f (y710.set ((Int.tmod x678000 32) : Int).toNat (Go.bits .xor .u8 (rd y710 (Int.tmod x678000 32)) x678001))).bind fun bt715 => (if bt715.2.2.2.2.2.2.2 = 0 then ((cyl_Same.f k bt715.1 bt715.2.1 bt715.2.2.1 bt715.2.2.2.1 bt715.2.2.2.2.1 bt715.2.2.2.2.2.1 bt715.2.2.2.2.2.2.1 x677000 x677001 x677002 x677003 x677004 x677005 x677006).bind fun t728 => (if t728 = true then (none) else (selvedgelaw18_CylBack.j1 k x1))) else (selvedgelaw18_CylBack.j1 k x1))) else (none)) else (none))) else (none))))
end
def selvedgelaw18_CylBack.f (k : Nat) (a0_0 : Int) (a0_1 : Int) (a0_2 : Int) (a0_3 : Int) (a0_4 : Int) (l0_5 : List Int) (l0_6 : List Int) (l1 : List Int) (a2_0 : Int) (a2_1 : Int) : Option (Bool) := (selvedgelaw18_one.f a0_0 a0_1 a0_2 a0_3 a0_4 l0_5 l0_6).bind fun bt678 => ((cyl_Encode.f bt678.1 bt678.2.1 bt678.2.2.1 bt678.2.2.2.1 bt678.2.2.2.2.1 bt678.2.2.2.2.2.1 bt678.2.2.2.2.2.2).bind fun bt689 => (if bt689.2 = 0 then ((cyl_Decode.f bt689.1).bind fun bt693 => (if bt693.2.2.2.2.2.2.2 = 0 then ((cyl_Same.f k bt678.1 bt678.2.1 bt678.2.2.1 bt678.2.2.2.1 bt678.2.2.2.2.1 bt678.2.2.2.2.2.1 bt678.2.2.2.2.2.2 bt693.1 bt693.2.1 bt693.2.2.1 bt693.2.2.2.1 bt693.2.2.2.2.1 bt693.2.2.2.2.2.1 bt693.2.2.2.2.2.2.1).bind fun t706 => (if t706 = true then (selvedgelaw18_CylBack.j0 k l1 bt689.1 ((bt689.1.length : Int) != 32) bt678.1 bt678.2.1 bt678.2.2.1 bt678.2.2.2.1 bt678.2.2.2.2.1 bt678.2.2.2.2.2.1 bt678.2.2.2.2.2.2 a2_0 a2_1) else (selvedgelaw18_CylBack.j0 k l1 bt689.1 true bt678.1 bt678.2.1 bt678.2.2.1 bt678.2.2.2.1 bt678.2.2.2.2.1 bt678.2.2.2.2.2.1 bt678.2.2.2.2.2.2 a2_0 a2_1))) else (selvedgelaw18_CylBack.j0 k l1 bt689.1 true bt678.1 bt678.2.1 bt678.2.2.1 bt678.2.2.2.1 bt678.2.2.2.2.1 bt678.2.2.2.2.2.1 bt678.2.2.2.2.2.2 a2_0 a2_1))) else (selvedgelaw18_CylBack.j1 k l1)))
def selvedgelaw18_CylBack.T9 : Bool × List (List Nat × List Nat) := (true, [([], []), ([], []), ([1], [1]), ([2], [2]), ([0, 3], [0, 3]), ([4], [4]), ([], []), ([6], [6]), ([5, 7], [5, 7]), ([0, 3, 0, 1, 2, 3, 4, 5, 6, 7, 8], [0, 3]), ([9, 8, 0, 1, 2, 3, 4, 5, 6, 7, 8], [8, 9])])
def selvedgelaw18_CylBack.B9 : List Nat := [0, 0, 2, 6, 15, 31, 0, 64, 255, 511, 1023]
theorem selvedgelaw18_CylBack.tab9 : rtab .any (opsOf Try.f8 9) = selvedgelaw18_CylBack.T9 := by kernel_rfl
theorem selvedgelaw18_CylBack.bits9 : waitsOk selvedgelaw18_CylBack.T9.2 selvedgelaw18_CylBack.B9 = true := by kernel_rfl
set_option maxHeartbeats 8000000 in
set_option maxRecDepth 100000 in
theorem selvedgelaw18_CylBack.calls (k : Nat) (a0_0 : Int) (a0_1 : Int) (a0_2 : Int) (a0_3 : Int) (a0_4 : Int) (A0_5 : Option Addr) (c0_5 : Nat) (l0_5 : List Int) (A0_6 : Option Addr) (c0_6 : Nat) (l0_6 : List Int) (P1_ : Nat → Prop) (A1 : Option Addr) (c1 : Nat) (l1 : List Int) (a2_0 : Int) (a2_1 : Int) (r : Bool) (w : World) (hr0_5 : Kd.C (Kd.int .i64) w A0_5 l0_5.length l0_5) (hc0_5 : l0_5.length ≤ c0_5) (hr0_6 : Kd.C (Kd.int .i64) w A0_6 l0_6.length l0_6) (hc0_6 : l0_6.length ≤ c0_6) (hs1 : Kd.V (Kd.int .u8) 5 w w.heap.size (fun k_ => P1_ k_) (.slice A1 l1.length c1) l1) (h : selvedgelaw18_CylBack.f k a0_0 a0_1 a0_2 a0_3 a0_4 l0_5 l0_6 l1 a2_0 a2_1 = some r) :
  Calls Try.prog 8 #[.agg #[.int .i64 a0_0, .int .i64 a0_1, .int .i64 a0_2, .int .i64 a0_3, .int .i64 a0_4, .slice A0_5 l0_5.length c0_5, .slice A0_6 l0_6.length c0_6], .slice A1 l1.length c1, .agg #[.int .u8 a2_0, .int .u8 a2_1]] w fun e w' => e = .returned (.bool r) ∧ Below w.heap.size w w' := by
 have hu42 := Try.underlying42
 have hu60 := Try.underlying60
 have HR0_5 := Aside0.mk hr0_5
 have HC0_5 := Aside0.mk hc0_5
 clear hr0_5 hc0_5
 have HR0_6 := Aside0.mk hr0_6
 have HC0_6 := Aside0.mk hc0_6
 clear hr0_6 hc0_6
 have HO1 := Aside0.mk (show Kd.V (Kd.int .u8) 5 w w.heap.size (fun k_ => (P1_ k_ ∨ w.heap.size ≤ k_)) (.slice A1 l1.length c1) l1 from Kd.V_mono hs1 (fun k_ hk => .inl hk))
 have HB := Aside0.mk (Below.refl w.heap.size w)
 have H : ((selvedgelaw18_one.f a0_0 a0_1 a0_2 a0_3 a0_4 l0_5 l0_6).bind fun bt678 => ((cyl_Encode.f bt678.1 bt678.2.1 bt678.2.2.1 bt678.2.2.2.1 bt678.2.2.2.2.1 bt678.2.2.2.2.2.1 bt678.2.2.2.2.2.2).bind fun bt689 => (if bt689.2 = 0 then ((cyl_Decode.f bt689.1).bind fun bt693 => (if bt693.2.2.2.2.2.2.2 = 0 then ((cyl_Same.f k bt678.1 bt678.2.1 bt678.2.2.1 bt678.2.2.2.1 bt678.2.2.2.2.1 bt678.2.2.2.2.2.1 bt678.2.2.2.2.2.2 bt693.1 bt693.2.1 bt693.2.2.1 bt693.2.2.2.1 bt693.2.2.2.2.1 bt693.2.2.2.2.2.1 bt693.2.2.2.2.2.2.1).bind fun t706 => (if t706 = true then (selvedgelaw18_CylBack.j0 k l1 bt689.1 ((bt689.1.length : Int) != 32) bt678.1 bt678.2.1 bt678.2.2.1 bt678.2.2.2.1 bt678.2.2.2.2.1 bt678.2.2.2.2.2.1 bt678.2.2.2.2.2.2 a2_0 a2_1) else (selvedgelaw18_CylBack.j0 k l1 bt689.1 true bt678.1 bt678.2.1 bt678.2.2.1 bt678.2.2.2.1 bt678.2.2.2.2.1 bt678.2.2.2.2.2.1 bt678.2.2.2.2.2.2 a2_0 a2_1))) else (selvedgelaw18_CylBack.j0 k l1 bt689.1 true bt678.1 bt678.2.1 bt678.2.2.1 bt678.2.2.2.1 bt678.2.2.2.2.1 bt678.2.2.2.2.2.1 bt678.2.2.2.2.2.2 a2_0 a2_1))) else (selvedgelaw18_CylBack.j1 k l1)))) = some r := h
 clear h
 replace H := Option.bind_eq_some_iff.mp H
 obtain ⟨⟨t678, t679, t680, t681, t682, t683, t686⟩, A40, H⟩ := H
 try dsimp -implicitDefEqProofs -simprocs only at H
 have A4 := Aside0.mk A40
 clear A40
 replace H := Option.bind_eq_some_iff.mp H
 obtain ⟨⟨t689, t692⟩, A50, H⟩ := H
 try dsimp -implicitDefEqProofs -simprocs only at H
 have A5 := Aside0.mk A50
 clear A50
 have HC6 := Aside0.mk H
 clear H
 go_enter Try.func8, Try.ntmps8
 go_upto_if 26 with (first | ((with_reducible refine gate_dst (N := 3) rfl ?_); (try (refine gate_guard (by rfl) ?_; dsimp only)); refine box_event rfl (N := 3) rfl (cs := #[.int .i64 a0_0, .int .i64 a0_1, .int .i64 a0_2, .int .i64 a0_3, .int .i64 a0_4, .slice A0_5 l0_5.length c0_5, .slice A0_6 l0_6.length c0_6]) (t := 42) (by first | (go_simp; done) | (go_simp; rfl)) ?_; intro gb676 hg w7 hbox hb; replace HO1 := Aside0.mk (Kd.V_below (Kd.V_elderB (vk HO1) gb676 (Nat.le_of_eq hg.symm)) hb); have BK676 := Aside0.mk (hbox); have GW676 := gs HB hg; have GE676 := gs HB hg; replace HB := Aside0.mk (below_step (bl HB) hb); clear hb hbox hg) | ((with_reducible refine gate_dst (N := 5) rfl ?_); (try (refine gate_guard (by rfl) ?_; dsimp only)); refine box_event rfl (N := 5) rfl (cs := #[.int .u8 a2_0, .int .u8 a2_1]) (t := 60) (by first | (go_simp; done) | (go_simp; rfl)) ?_; intro gb677 hg w8 hbox hb; replace HO1 := Aside0.mk (Kd.V_below (Kd.V_elderB (vk HO1) gb677 (Nat.le_of_eq hg.symm)) hb); have BK677 := Aside0.mk (hbox); have GW677 := gl HB hg (by simp [ag, GE676.out]); have GE677 := gl HB hg (by simp [ag, GE676.out]); replace HB := Aside0.mk (below_step (bs HB (by simp [ag, GE676.out])) hb); have NB676_677 := nl BK676 hg; have NB677_676 := nt BK676 hg; replace BK676 := Aside0.mk (bb BK676 hb); clear hb hbox hg; have hnb9 := NB676_677.out; have hnc9 := NB677_676.out; obtain ⟨hcz10_0, hcz10_1, hcz10_2, hcz10_3, hcz10_4, hcz10_5, hcz10_6, hfz10_0, hfz10_1, hfz10_2, hfz10_3, hfz10_4, hfz10_5, hfz10_6⟩ := cf7 BK676) | ((with_reducible refine gate_callee (f := 25) rfl ?_); refine goesL_ (some 19) rfl rfl Try.func25 (by kernel_rfl) rfl #[.agg #[.int .i64 a0_0, .int .i64 a0_1, .int .i64 a0_2, .int .i64 a0_3, .int .i64 a0_4, .slice A0_5 l0_5.length c0_5, .slice A0_6 l0_6.length c0_6]] rfl (by (try simp only [List.map_toArray, List.map_cons, List.map_nil]); first | done | rfl | (simp only [List.length_drop, List.length_take]; rfl)) ?_; (with_reducible refine (selvedgelaw18_one.calls a0_0 a0_1 a0_2 a0_3 a0_4 _ _ l0_5 _ _ l0_6 t678 t679 t680 t681 t682 t683 t686 _ ?side1 ?side2 ?side3 ?side4 A4.out).mono ?_); (case side1 => exact ck (Kd.C_below HR0_5.out HB.out)); (case side2 => exact HC0_5.out); (case side3 => exact ck (Kd.C_below HR0_6.out HB.out)); (case side4 => exact HC0_6.out); rintro e w11 ⟨v684, v687, rfl, ho0, ho1, hb⟩; refine ⟨_, rfl, ?_⟩; have hone_v684 := Kd.R_one ho0; have hone_v687 := Kd.R_one ho1; replace HO1 := Aside0.mk (Kd.V_mono (Kd.V_told (Kd.V_told (Kd.V_old (vk HO1) hb) (Kd.R_base ho0)) (Kd.R_base ho1)) (fun _ h_ => h_.1)); have HO685 := Aside0.mk (Kd.R_lower (Kd.R_newM (M := fun k_ => (w.heap.size ≤ k_)) ho0 (below_size (bs HB (by simp [ag, GE676.out, GE677.out]))) (fun k_ h_ => h_)) (below_size (bs HB (by simp [ag, GE676.out, GE677.out])))); have HO688 := Aside0.mk (Kd.R_lower (Kd.R_newM (M := fun k_ => (w.heap.size ≤ k_)) ho1 (below_size (bs HB (by simp [ag, GE676.out, GE677.out]))) (fun k_ h_ => h_)) (below_size (bs HB (by simp [ag, GE676.out, GE677.out])))); replace BK676 := Aside0.mk (bb BK676 hb); replace BK677 := Aside0.mk (bb BK677 hb); replace HB := Aside0.mk (below_step (bs HB (by simp [ag, GE676.out, GE677.out])) hb); clear ho0 hb; (try clear ho1); obtain ⟨hcz12_0, hcz12_1, hcz12_2, hcz12_3, hcz12_4, hcz12_5, hcz12_6, hfz12_0, hfz12_1, hfz12_2, hfz12_3, hfz12_4, hfz12_5, hfz12_6⟩ := cf7 BK676; obtain ⟨Ao13, co13, eo13⟩ := Kd.R_slice HO685.out; subst eo13; obtain ⟨Ao14, co14, eo14⟩ := Kd.R_slice HO688.out; subst eo14) | ((with_reducible refine gate_callee (f := 30) rfl ?_); refine goesL_ (some 22) rfl rfl Try.func30 (by kernel_rfl) rfl #[.agg #[.int .i64 t678, .int .i64 t679, .int .i64 t680, .int .i64 t681, .int .i64 t682, .slice Ao13 t683.length co13, .slice Ao14 t686.length co14]] rfl (by (try simp only [List.map_toArray, List.map_cons, List.map_nil]); first | done | rfl | (simp only [List.length_drop, List.length_take]; rfl)) ?_; (with_reducible refine (cyl_Encode.calls t678 t679 t680 t681 t682 _ _ t683 _ _ t686 t689 t692 _ ?side1 ?side2 ?side3 ?side4 A5.out).mono ?_); (case side1 => refine (Kd.R_reads' (e := 3) (base := w.heap.size) (ok := fun k_ => ((w.heap.size ≤ k_) ∧ some k_ ≠ (.slice Ao14 t686.length co14 : Value).ownBlock)) (n := t683.length) (c := co13) ?_).2.2; exact (by (with_reducible repeat (first | apply Kd.R_alloc | apply Kd.R_drewN | apply Kd.R_drew)); exact (Kd.R_mono (Kd.R_far (p := ⟨gb676, 6, none⟩) (Kd.R_far (p := ⟨gb676, 5, none⟩) (Kd.R_far (p := ⟨gb676, 4, none⟩) (Kd.R_far (p := ⟨gb676, 3, none⟩) (Kd.R_far (p := ⟨gb676, 2, none⟩) (Kd.R_far (p := ⟨gb676, 1, none⟩) (Kd.R_far (p := ⟨gb676, 0, none⟩) (Kd.R_types HO685.out BK676.out (by decide)) (fun _ hk => hk.2) (.int .i64 t678)) (fun _ hk => hk.2) (.int .i64 t679)) (fun _ hk => hk.2) (.int .i64 t680)) (fun _ hk => hk.2) (.int .i64 t681)) (fun _ hk => hk.2) (.int .i64 t682)) (fun _ hk => hk.2) (.slice Ao13 t683.length co13)) (fun _ hk => hk.2) (.slice Ao14 t686.length co14)) (fun _ h_ => h_.1)))); (case side2 => exact (Kd.R_reads' HO685.out).2.1); (case side3 => refine (Kd.R_reads' (e := 3) (base := w.heap.size) (ok := fun k_ => ((w.heap.size ≤ k_) ∧ some k_ ≠ (.slice Ao13 t683.length co13 : Value).ownBlock)) (n := t686.length) (c := co14) ?_).2.2; exact (by (with_reducible repeat (first | apply Kd.R_alloc | apply Kd.R_drewN | apply Kd.R_drew)); exact (Kd.R_mono (Kd.R_far (p := ⟨gb676, 6, none⟩) (Kd.R_far (p := ⟨gb676, 5, none⟩) (Kd.R_far (p := ⟨gb676, 4, none⟩) (Kd.R_far (p := ⟨gb676, 3, none⟩) (Kd.R_far (p := ⟨gb676, 2, none⟩) (Kd.R_far (p := ⟨gb676, 1, none⟩) (Kd.R_far (p := ⟨gb676, 0, none⟩) (Kd.R_types HO688.out BK676.out (by decide)) (fun _ hk => hk.2) (.int .i64 t678)) (fun _ hk => hk.2) (.int .i64 t679)) (fun _ hk => hk.2) (.int .i64 t680)) (fun _ hk => hk.2) (.int .i64 t681)) (fun _ hk => hk.2) (.int .i64 t682)) (fun _ hk => hk.2) (.slice Ao13 t683.length co13)) (fun _ hk => hk.2) (.slice Ao14 t686.length co14)) (fun _ h_ => h_.1)))); (case side4 => exact (Kd.R_reads' HO688.out).2.1); rintro e w15 ⟨v690, rfl, ho0, hb⟩; refine ⟨_, rfl, ?_⟩; have hone_v690 := Kd.R_one ho0; replace HO1 := Aside0.mk (Kd.V_elder' (by (with_reducible repeat (first | apply Kd.V_alloc | apply Kd.V_drewN | apply Kd.V_drew)); exact (Kd.V_mono (Kd.V_far (p := ⟨gb676, 6, none⟩) (Kd.V_far (p := ⟨gb676, 5, none⟩) (Kd.V_far (p := ⟨gb676, 4, none⟩) (Kd.V_far (p := ⟨gb676, 3, none⟩) (Kd.V_far (p := ⟨gb676, 2, none⟩) (Kd.V_far (p := ⟨gb676, 1, none⟩) (Kd.V_far (p := ⟨gb676, 0, none⟩) (Kd.V_mono HO1.out (fun k_ hk => (⟨hk, hk.1.1.1.2⟩ : _ ∧ k_ ≠ gb676))) (fun _ hk => hk.2) (.int .i64 t678)) (fun _ hk => hk.2) (.int .i64 t679)) (fun _ hk => hk.2) (.int .i64 t680)) (fun _ hk => hk.2) (.int .i64 t681)) (fun _ hk => hk.2) (.int .i64 t682)) (fun _ hk => hk.2) (.slice Ao13 t683.length co13)) (fun _ hk => hk.2) (.slice Ao14 t686.length co14)) (fun _ h_ => h_.1))) (Kd.R_base ho0) hb); replace HO685 := Aside0.mk (Kd.R_below (by (with_reducible repeat (first | apply Kd.R_alloc | apply Kd.R_drewN | apply Kd.R_drew)); exact (Kd.R_mono (Kd.R_far (p := ⟨gb676, 6, none⟩) (Kd.R_far (p := ⟨gb676, 5, none⟩) (Kd.R_far (p := ⟨gb676, 4, none⟩) (Kd.R_far (p := ⟨gb676, 3, none⟩) (Kd.R_far (p := ⟨gb676, 2, none⟩) (Kd.R_far (p := ⟨gb676, 1, none⟩) (Kd.R_far (p := ⟨gb676, 0, none⟩) (Kd.R_types HO685.out BK676.out (by decide)) (fun _ hk => hk.2) (.int .i64 t678)) (fun _ hk => hk.2) (.int .i64 t679)) (fun _ hk => hk.2) (.int .i64 t680)) (fun _ hk => hk.2) (.int .i64 t681)) (fun _ hk => hk.2) (.int .i64 t682)) (fun _ hk => hk.2) (.slice Ao13 t683.length co13)) (fun _ hk => hk.2) (.slice Ao14 t686.length co14)) (fun _ h_ => h_.1))) hb); replace HO688 := Aside0.mk (Kd.R_below (by (with_reducible repeat (first | apply Kd.R_alloc | apply Kd.R_drewN | apply Kd.R_drew)); exact (Kd.R_mono (Kd.R_far (p := ⟨gb676, 6, none⟩) (Kd.R_far (p := ⟨gb676, 5, none⟩) (Kd.R_far (p := ⟨gb676, 4, none⟩) (Kd.R_far (p := ⟨gb676, 3, none⟩) (Kd.R_far (p := ⟨gb676, 2, none⟩) (Kd.R_far (p := ⟨gb676, 1, none⟩) (Kd.R_far (p := ⟨gb676, 0, none⟩) (Kd.R_types HO688.out BK676.out (by decide)) (fun _ hk => hk.2) (.int .i64 t678)) (fun _ hk => hk.2) (.int .i64 t679)) (fun _ hk => hk.2) (.int .i64 t680)) (fun _ hk => hk.2) (.int .i64 t681)) (fun _ hk => hk.2) (.int .i64 t682)) (fun _ hk => hk.2) (.slice Ao13 t683.length co13)) (fun _ hk => hk.2) (.slice Ao14 t686.length co14)) (fun _ h_ => h_.1))) hb); have HO691 := Aside0.mk (Kd.R_lower (Kd.R_newM (M := fun k_ => (w.heap.size ≤ k_)) ho0 (below_size (bs HB (by simp [ag, GE676.out, GE677.out]))) (fun k_ h_ => h_)) (below_size (bs HB (by simp [ag, GE676.out, GE677.out])))); replace BK676 := Aside0.mk (blk_below (g := gb676) (o := .cells #[.int .i64 t678, .int .i64 t679, .int .i64 t680, .int .i64 t681, .int .i64 t682, .slice Ao13 t683.length co13, .slice Ao14 t686.length co14] 42 (0, 0)) (by (with_reducible repeat (first | refine blk_drewN ?_ _ | refine blk_drew ?_ | refine blk_alloc ?_ _)); refine blk_put (cs := #[.int .i64 t678, .int .i64 t679, .int .i64 t680, .int .i64 t681, .int .i64 t682, .slice Ao13 t683.length co13, .slice A0_6 l0_6.length c0_6]) ?_ 6 _ rfl; (with_reducible repeat (first | refine blk_drewN ?_ _ | refine blk_drew ?_ | refine blk_alloc ?_ _)); refine blk_put (cs := #[.int .i64 t678, .int .i64 t679, .int .i64 t680, .int .i64 t681, .int .i64 t682, .slice A0_5 l0_5.length c0_5, .slice A0_6 l0_6.length c0_6]) ?_ 5 _ rfl; (with_reducible repeat (first | refine blk_drewN ?_ _ | refine blk_drew ?_ | refine blk_alloc ?_ _)); refine blk_put (cs := #[.int .i64 t678, .int .i64 t679, .int .i64 t680, .int .i64 t681, .int .i64 a0_4, .slice A0_5 l0_5.length c0_5, .slice A0_6 l0_6.length c0_6]) ?_ 4 _ rfl; (with_reducible repeat (first | refine blk_drewN ?_ _ | refine blk_drew ?_ | refine blk_alloc ?_ _)); refine blk_put (cs := #[.int .i64 t678, .int .i64 t679, .int .i64 t680, .int .i64 a0_3, .int .i64 a0_4, .slice A0_5 l0_5.length c0_5, .slice A0_6 l0_6.length c0_6]) ?_ 3 _ rfl; (with_reducible repeat (first | refine blk_drewN ?_ _ | refine blk_drew ?_ | refine blk_alloc ?_ _)); refine blk_put (cs := #[.int .i64 t678, .int .i64 t679, .int .i64 a0_2, .int .i64 a0_3, .int .i64 a0_4, .slice A0_5 l0_5.length c0_5, .slice A0_6 l0_6.length c0_6]) ?_ 2 _ rfl; (with_reducible repeat (first | refine blk_drewN ?_ _ | refine blk_drew ?_ | refine blk_alloc ?_ _)); refine blk_put (cs := #[.int .i64 t678, .int .i64 a0_1, .int .i64 a0_2, .int .i64 a0_3, .int .i64 a0_4, .slice A0_5 l0_5.length c0_5, .slice A0_6 l0_6.length c0_6]) ?_ 1 _ rfl; (with_reducible repeat (first | refine blk_drewN ?_ _ | refine blk_drew ?_ | refine blk_alloc ?_ _)); refine blk_put (cs := #[.int .i64 a0_0, .int .i64 a0_1, .int .i64 a0_2, .int .i64 a0_3, .int .i64 a0_4, .slice A0_5 l0_5.length c0_5, .slice A0_6 l0_6.length c0_6]) ?_ 0 _ rfl; (with_reducible repeat (first | refine blk_drewN ?_ _ | refine blk_drew ?_ | refine blk_alloc ?_ _)); exact BK676.out) hb); replace BK677 := Aside0.mk (blk_below (g := gb677) (o := .cells #[.int .u8 a2_0, .int .u8 a2_1] 60 (0, 0)) (by (with_reducible repeat (first | refine blk_drewN ?_ _ | refine blk_drew ?_ | refine blk_alloc ?_ _)); refine blk_far ?_ NB677_676.out _; (with_reducible repeat (first | refine blk_drewN ?_ _ | refine blk_drew ?_ | refine blk_alloc ?_ _)); refine blk_far ?_ NB677_676.out _; (with_reducible repeat (first | refine blk_drewN ?_ _ | refine blk_drew ?_ | refine blk_alloc ?_ _)); refine blk_far ?_ NB677_676.out _; (with_reducible repeat (first | refine blk_drewN ?_ _ | refine blk_drew ?_ | refine blk_alloc ?_ _)); refine blk_far ?_ NB677_676.out _; (with_reducible repeat (first | refine blk_drewN ?_ _ | refine blk_drew ?_ | refine blk_alloc ?_ _)); refine blk_far ?_ NB677_676.out _; (with_reducible repeat (first | refine blk_drewN ?_ _ | refine blk_drew ?_ | refine blk_alloc ?_ _)); refine blk_far ?_ NB677_676.out _; (with_reducible repeat (first | refine blk_drewN ?_ _ | refine blk_drew ?_ | refine blk_alloc ?_ _)); refine blk_far ?_ NB677_676.out _; (with_reducible repeat (first | refine blk_drewN ?_ _ | refine blk_drew ?_ | refine blk_alloc ?_ _)); exact BK677.out) hb); replace HB := Aside0.mk (below_step (bs HB (by simp [ag, GE676.out, GE677.out])) hb); clear ho0 hb))
 (try go_simp)
 go_cut [] (fun wc => ∃ (kq : Nat) (x1_5 : List Int), Aside0 (selvedgelaw18_CylBack.j1 kq x1_5 = some r) ∧ Aside0 (kq ≤ k) ∧ Aside0 (Kd.V (Kd.int .u8) 5 wc w.heap.size (fun k_ => (P1_ k_ ∨ w.heap.size ≤ k_) ∧ some k_ ≠ ((.slice Ao13 t683.length co13) : Value).ownBlock ∧ some k_ ≠ ((.slice Ao14 t686.length co14) : Value).ownBlock ∧ k_ ≠ gb676 ∧ k_ ≠ gb677) (.slice A1 l1.length c1) x1_5) ∧ Aside0 (Kd.R (Kd.int .i64) 3 wc w.heap.size (fun k_ => (w.heap.size ≤ k_) ∧ some k_ ≠ ((.slice Ao14 t686.length co14) : Value).ownBlock) (.slice Ao13 t683.length co13) t683) ∧ Aside0 (Kd.R (Kd.int .i64) 3 wc w.heap.size (fun k_ => (w.heap.size ≤ k_) ∧ some k_ ≠ ((.slice Ao13 t683.length co13) : Value).ownBlock) (.slice Ao14 t686.length co14) t686) ∧ Aside0 (wc.heap[gb676]? = some (.cells #[.int .i64 t678, .int .i64 t679, .int .i64 t680, .int .i64 t681, .int .i64 t682, (.slice Ao13 t683.length co13), (.slice Ao14 t686.length co14)] 42 (0, 0))) ∧ Aside0 (wc.heap[gb677]? = some (.cells #[.int .u8 a2_0, .int .u8 a2_1] 60 (0, 0))) ∧ Aside0 (Below w.heap.size w wc))
 case first =>
  have H := HC6.out
  clear HC6
  by_cases c16 : t692 = 0
  ·rw [if_pos c16] at H
   have c16b0 : (t692 == 0) = true := beq_iff_eq.mpr c16
   have c16b1 : (t692 != 0) = false := bne_eq_false_iff_eq.mpr c16
   clear c16
   (first | rw [c16b0] | (simp only [i64_w, i32_w]; rw [c16b0]) | skip)
   replace H := Option.bind_eq_some_iff.mp H
   obtain ⟨⟨t693, t694, t695, t696, t697, t698, t701, t704⟩, A170, H⟩ := H
   try dsimp -implicitDefEqProofs -simprocs only at H
   have A17 := Aside0.mk A170
   clear A170
   have HC18 := Aside0.mk H
   clear H
   obtain ⟨Ao19, co19, eo19⟩ := Kd.R_slice HO691.out
   subst eo19
   go_upto_region 5 with (first | ((with_reducible refine gate_callee (f := 32) rfl ?_); refine goesL_ (some 29) rfl rfl Try.func32 (by kernel_rfl) rfl #[.slice Ao19 t689.length co19] rfl (by simp only [List.map_toArray, List.map_cons, List.map_nil]; first | done | rfl) ?_; (with_reducible refine (cyl_Decode.calls _ _ t689 t693 t694 t695 t696 t697 t698 t701 t704 _ ?side1 ?side2 A17.out).mono ?_); (case side1 => repeat (first | exact (Kd.R_reads' HO691.out).2.2 | (with_reducible refine Kd.C_alloc ?_ _) | (with_reducible refine Kd.C_drewN ?_ _) | (with_reducible refine Kd.C_drew ?_))); (case side2 => exact (Kd.R_reads' HO691.out).2.1); rintro e w20 ⟨v699, v702, rfl, ho0, ho1, hb⟩; refine ⟨_, rfl, ?_⟩; have hone_v699 := Kd.R_one ho0; have hone_v702 := Kd.R_one ho1; replace HO1 := Aside0.mk (Kd.V_mono (Kd.V_told (Kd.V_told (Kd.V_old (vk HO1) hb) (Kd.R_base ho0)) (Kd.R_base ho1)) (fun _ h_ => h_.1)); replace HO691 := Aside0.mk (Kd.R_below (rk HO691) hb); have HO700 := Aside0.mk (Kd.R_lower (Kd.R_new' (Kd.R_new' (Kd.R_newM (M := fun k_ => (w.heap.size ≤ k_)) ho0 (below_size (bs HB (by simp [ag, GE676.out, GE677.out]))) (fun k_ h_ => h_)) (Kd.R_lt (rk HO685))) (Kd.R_lt (rk HO688))) (below_size (bs HB (by simp [ag, GE676.out, GE677.out])))); have HO703 := Aside0.mk (Kd.R_lower (Kd.R_new' (Kd.R_new' (Kd.R_newM (M := fun k_ => (w.heap.size ≤ k_)) ho1 (below_size (bs HB (by simp [ag, GE676.out, GE677.out]))) (fun k_ h_ => h_)) (Kd.R_lt (rk HO685))) (Kd.R_lt (rk HO688))) (below_size (bs HB (by simp [ag, GE676.out, GE677.out])))); replace HO685 := Aside0.mk (Kd.R_mono (Kd.R_told (Kd.R_told (Kd.R_old (rk HO685) hb) (Kd.R_base ho0)) (Kd.R_base ho1)) (fun _ h_ => h_.1)); replace HO688 := Aside0.mk (Kd.R_mono (Kd.R_told (Kd.R_told (Kd.R_old (rk HO688) hb) (Kd.R_base ho0)) (Kd.R_base ho1)) (fun _ h_ => h_.1)); replace BK676 := Aside0.mk (bb BK676 hb); replace BK677 := Aside0.mk (bb BK677 hb); replace HB := Aside0.mk (below_step (bs HB (by simp [ag, GE676.out, GE677.out])) hb); clear ho0 hb; (try clear ho1)) | ((with_reducible refine gate_dst (N := 9) rfl ?_); (try (refine gate_guard (by rfl) ?_; dsimp only)); refine box_event rfl (N := 9) rfl (cs := #[.int .i64 0, .int .i64 0, .int .i64 0, .int .i64 0, .int .i64 0, .slice none 0 0, .slice none 0 0]) (t := 42) (by first | (go_simp; done) | (go_simp; rfl)) ?_; intro gb705 hg w21 hbox hb; replace HO1 := Aside0.mk (Kd.V_below (Kd.V_elderB (vk HO1) gb705 (Nat.le_of_eq hg.symm)) hb); replace HO685 := Aside0.mk (Kd.R_below (rk HO685) hb); replace HO688 := Aside0.mk (Kd.R_below (rk HO688) hb); replace HO691 := Aside0.mk (Kd.R_below (rk HO691) hb); replace HO700 := Aside0.mk (Kd.R_below (rk HO700) hb); replace HO703 := Aside0.mk (Kd.R_below (rk HO703) hb); have BK705 := Aside0.mk (hbox); have GW705 := gl HB hg (by simp [ag, GE676.out, GE677.out]); have GE705 := gl HB hg (by simp [ag, GE676.out, GE677.out]); replace HB := Aside0.mk (below_step (bs HB (by simp [ag, GE676.out, GE677.out])) hb); have NB676_705 := nl BK676 hg; have NB705_676 := nt BK676 hg; replace BK676 := Aside0.mk (bb BK676 hb); have NB677_705 := nl BK677 hg; have NB705_677 := nt BK677 hg; replace BK677 := Aside0.mk (bb BK677 hb); clear hb hbox hg; have hnb22 := NB705_676.out; have hnc22 := NB676_705.out; have hnb23 := NB705_677.out; have hnc23 := NB677_705.out; obtain ⟨hcz24_0, hcz24_1, hcz24_2, hcz24_3, hcz24_4, hcz24_5, hcz24_6, hfz24_0, hfz24_1, hfz24_2, hfz24_3, hfz24_4, hfz24_5, hfz24_6⟩ := cf7 BK705; obtain ⟨Ao25, co25, eo25⟩ := Kd.R_slice HO700.out; subst eo25; obtain ⟨Ao26, co26, eo26⟩ := Kd.R_slice HO703.out; subst eo26))
   (try go_simp)
   go_cut [44] (fun v44 wc => ∃ (kq : Nat) (x44_17 : Bool), v44 = .bool x44_17 ∧ Aside0 (selvedgelaw18_CylBack.j0 kq l1 t689 x44_17 t678 t679 t680 t681 t682 t683 t686 a2_0 a2_1 = some r) ∧ Aside0 (kq ≤ k) ∧ Aside0 (Kd.V (Kd.int .u8) 5 wc w.heap.size (fun k_ => (P1_ k_ ∨ w.heap.size ≤ k_) ∧ some k_ ≠ ((.slice Ao19 t689.length co19) : Value).ownBlock ∧ some k_ ≠ ((.slice Ao13 t683.length co13) : Value).ownBlock ∧ some k_ ≠ ((.slice Ao14 t686.length co14) : Value).ownBlock ∧ some k_ ≠ ((.slice Ao25 t698.length co25) : Value).ownBlock ∧ some k_ ≠ ((.slice Ao26 t701.length co26) : Value).ownBlock ∧ k_ ≠ gb676 ∧ k_ ≠ gb677 ∧ k_ ≠ gb705) (.slice A1 l1.length c1) l1) ∧ Aside0 (Kd.R (Kd.int .u8) 84 wc w.heap.size (fun k_ => (w.heap.size ≤ k_)) (.slice Ao19 t689.length co19) t689) ∧ Aside0 (Kd.R (Kd.int .i64) 3 wc w.heap.size (fun k_ => (w.heap.size ≤ k_) ∧ some k_ ≠ ((.slice Ao14 t686.length co14) : Value).ownBlock ∧ some k_ ≠ ((.slice Ao25 t698.length co25) : Value).ownBlock ∧ some k_ ≠ ((.slice Ao26 t701.length co26) : Value).ownBlock) (.slice Ao13 t683.length co13) t683) ∧ Aside0 (Kd.R (Kd.int .i64) 3 wc w.heap.size (fun k_ => (w.heap.size ≤ k_) ∧ some k_ ≠ ((.slice Ao13 t683.length co13) : Value).ownBlock ∧ some k_ ≠ ((.slice Ao25 t698.length co25) : Value).ownBlock ∧ some k_ ≠ ((.slice Ao26 t701.length co26) : Value).ownBlock) (.slice Ao14 t686.length co14) t686) ∧ Aside0 (Kd.R (Kd.int .i64) 3 wc w.heap.size (fun k_ => (w.heap.size ≤ k_) ∧ some k_ ≠ ((.slice Ao13 t683.length co13) : Value).ownBlock ∧ some k_ ≠ ((.slice Ao14 t686.length co14) : Value).ownBlock ∧ some k_ ≠ ((.slice Ao26 t701.length co26) : Value).ownBlock) (.slice Ao25 t698.length co25) t698) ∧ Aside0 (Kd.R (Kd.int .i64) 3 wc w.heap.size (fun k_ => (w.heap.size ≤ k_) ∧ some k_ ≠ ((.slice Ao13 t683.length co13) : Value).ownBlock ∧ some k_ ≠ ((.slice Ao14 t686.length co14) : Value).ownBlock ∧ some k_ ≠ ((.slice Ao25 t698.length co25) : Value).ownBlock) (.slice Ao26 t701.length co26) t701) ∧ Aside0 (wc.heap[gb676]? = some (.cells #[.int .i64 t678, .int .i64 t679, .int .i64 t680, .int .i64 t681, .int .i64 t682, (.slice Ao13 t683.length co13), (.slice Ao14 t686.length co14)] 42 (0, 0))) ∧ Aside0 (wc.heap[gb677]? = some (.cells #[.int .u8 a2_0, .int .u8 a2_1] 60 (0, 0))) ∧ Aside0 (wc.heap[gb705]? = some (.cells #[.int .i64 t693, .int .i64 t694, .int .i64 t695, .int .i64 t696, .int .i64 t697, (.slice Ao25 t698.length co25), (.slice Ao26 t701.length co26)] 42 (0, 0))) ∧ Aside0 (Below w.heap.size w wc))
   case first =>
    have H := HC18.out
    clear HC18
    by_cases c27 : t704 = 0
    ·rw [if_pos c27] at H
     have c27b0 : (t704 == 0) = true := beq_iff_eq.mpr c27
     have c27b1 : (t704 != 0) = false := bne_eq_false_iff_eq.mpr c27
     clear c27
     (first | rw [c27b0] | (simp only [i64_w, i32_w]; rw [c27b0]) | skip)
     replace H := Option.bind_eq_some_iff.mp H
     obtain ⟨t706, A280, H⟩ := H
     try dsimp -implicitDefEqProofs -simprocs only at H
     have A28 := Aside0.mk A280
     clear A280
     by_cases c29 : t706 = true
     ·subst c29
      have H1 : (selvedgelaw18_CylBack.j0 k l1 t689 ((t689.length : Int) != 32) t678 t679 t680 t681 t682 t683 t686 a2_0 a2_1) = some r := by rw [if_pos rfl] at H; exact H
      clear H
      have H := H1
      clear H1
      have H' := Aside0.mk H
      clear H
      have hnb30 := NB676_677.out
      have hnc30 := NB677_676.out
      have hnb31 := NB676_705.out
      have hnc31 := NB705_676.out
      obtain ⟨hcz32_0, hcz32_1, hcz32_2, hcz32_3, hcz32_4, hcz32_5, hcz32_6, hfz32_0, hfz32_1, hfz32_2, hfz32_3, hfz32_4, hfz32_5, hfz32_6⟩ := cf7 BK676
      have hnb33 := NB705_677.out
      have hnc33 := NB677_705.out
      obtain ⟨hcz34_0, hcz34_1, hcz34_2, hcz34_3, hcz34_4, hcz34_5, hcz34_6, hfz34_0, hfz34_1, hfz34_2, hfz34_3, hfz34_4, hfz34_5, hfz34_6⟩ := cf7 BK705
      go_wp2_with (first | (go_at_call 28; (with_reducible refine (cyl_Same.calls k t678 t679 t680 t681 t682 _ _ t683 _ _ t686 t693 t694 t695 t696 t697 _ _ t698 _ _ t701 true _ ?side1 ?side2 ?side3 ?side4 ?side5 ?side6 ?side7 ?side8 A28.out).mono ?_); (case side1 => refine (Kd.R_reads' (e := 3) (base := w.heap.size) (ok := fun k_ => ((((w.heap.size ≤ k_) ∧ some k_ ≠ (.slice Ao14 t686.length co14 : Value).ownBlock) ∧ some k_ ≠ (.slice Ao25 t698.length co25 : Value).ownBlock) ∧ some k_ ≠ (.slice Ao26 t701.length co26 : Value).ownBlock)) (n := t683.length) (c := co13) ?_).2.2; exact (by (with_reducible repeat (first | apply Kd.R_alloc | apply Kd.R_drewN | apply Kd.R_drew)); exact (Kd.R_mono (Kd.R_far (p := ⟨gb705, 6, none⟩) (Kd.R_far (p := ⟨gb705, 5, none⟩) (Kd.R_far (p := ⟨gb705, 4, none⟩) (Kd.R_far (p := ⟨gb705, 3, none⟩) (Kd.R_far (p := ⟨gb705, 2, none⟩) (Kd.R_far (p := ⟨gb705, 1, none⟩) (Kd.R_far (p := ⟨gb705, 0, none⟩) (Kd.R_types HO685.out BK705.out (by decide)) (fun _ hk => hk.2) (.int .i64 t693)) (fun _ hk => hk.2) (.int .i64 t694)) (fun _ hk => hk.2) (.int .i64 t695)) (fun _ hk => hk.2) (.int .i64 t696)) (fun _ hk => hk.2) (.int .i64 t697)) (fun _ hk => hk.2) (.slice Ao25 t698.length co25)) (fun _ hk => hk.2) (.slice Ao26 t701.length co26)) (fun _ h_ => h_.1)))); (case side2 => exact (Kd.R_reads' HO685.out).2.1); (case side3 => refine (Kd.R_reads' (e := 3) (base := w.heap.size) (ok := fun k_ => ((((w.heap.size ≤ k_) ∧ some k_ ≠ (.slice Ao13 t683.length co13 : Value).ownBlock) ∧ some k_ ≠ (.slice Ao25 t698.length co25 : Value).ownBlock) ∧ some k_ ≠ (.slice Ao26 t701.length co26 : Value).ownBlock)) (n := t686.length) (c := co14) ?_).2.2; exact (by (with_reducible repeat (first | apply Kd.R_alloc | apply Kd.R_drewN | apply Kd.R_drew)); exact (Kd.R_mono (Kd.R_far (p := ⟨gb705, 6, none⟩) (Kd.R_far (p := ⟨gb705, 5, none⟩) (Kd.R_far (p := ⟨gb705, 4, none⟩) (Kd.R_far (p := ⟨gb705, 3, none⟩) (Kd.R_far (p := ⟨gb705, 2, none⟩) (Kd.R_far (p := ⟨gb705, 1, none⟩) (Kd.R_far (p := ⟨gb705, 0, none⟩) (Kd.R_types HO688.out BK705.out (by decide)) (fun _ hk => hk.2) (.int .i64 t693)) (fun _ hk => hk.2) (.int .i64 t694)) (fun _ hk => hk.2) (.int .i64 t695)) (fun _ hk => hk.2) (.int .i64 t696)) (fun _ hk => hk.2) (.int .i64 t697)) (fun _ hk => hk.2) (.slice Ao25 t698.length co25)) (fun _ hk => hk.2) (.slice Ao26 t701.length co26)) (fun _ h_ => h_.1)))); (case side4 => exact (Kd.R_reads' HO688.out).2.1); (case side5 => refine (Kd.R_reads' (e := 3) (base := w.heap.size) (ok := fun k_ => ((((w.heap.size ≤ k_) ∧ some k_ ≠ (.slice Ao26 t701.length co26 : Value).ownBlock) ∧ some k_ ≠ (.slice Ao13 t683.length co13 : Value).ownBlock) ∧ some k_ ≠ (.slice Ao14 t686.length co14 : Value).ownBlock)) (n := t698.length) (c := co25) ?_).2.2; exact (by (with_reducible repeat (first | apply Kd.R_alloc | apply Kd.R_drewN | apply Kd.R_drew)); exact (Kd.R_mono (Kd.R_far (p := ⟨gb705, 6, none⟩) (Kd.R_far (p := ⟨gb705, 5, none⟩) (Kd.R_far (p := ⟨gb705, 4, none⟩) (Kd.R_far (p := ⟨gb705, 3, none⟩) (Kd.R_far (p := ⟨gb705, 2, none⟩) (Kd.R_far (p := ⟨gb705, 1, none⟩) (Kd.R_far (p := ⟨gb705, 0, none⟩) (Kd.R_types HO700.out BK705.out (by decide)) (fun _ hk => hk.2) (.int .i64 t693)) (fun _ hk => hk.2) (.int .i64 t694)) (fun _ hk => hk.2) (.int .i64 t695)) (fun _ hk => hk.2) (.int .i64 t696)) (fun _ hk => hk.2) (.int .i64 t697)) (fun _ hk => hk.2) (.slice Ao25 t698.length co25)) (fun _ hk => hk.2) (.slice Ao26 t701.length co26)) (fun _ h_ => h_.1)))); (case side6 => exact (Kd.R_reads' HO700.out).2.1); (case side7 => refine (Kd.R_reads' (e := 3) (base := w.heap.size) (ok := fun k_ => ((((w.heap.size ≤ k_) ∧ some k_ ≠ (.slice Ao25 t698.length co25 : Value).ownBlock) ∧ some k_ ≠ (.slice Ao13 t683.length co13 : Value).ownBlock) ∧ some k_ ≠ (.slice Ao14 t686.length co14 : Value).ownBlock)) (n := t701.length) (c := co26) ?_).2.2; exact (by (with_reducible repeat (first | apply Kd.R_alloc | apply Kd.R_drewN | apply Kd.R_drew)); exact (Kd.R_mono (Kd.R_far (p := ⟨gb705, 6, none⟩) (Kd.R_far (p := ⟨gb705, 5, none⟩) (Kd.R_far (p := ⟨gb705, 4, none⟩) (Kd.R_far (p := ⟨gb705, 3, none⟩) (Kd.R_far (p := ⟨gb705, 2, none⟩) (Kd.R_far (p := ⟨gb705, 1, none⟩) (Kd.R_far (p := ⟨gb705, 0, none⟩) (Kd.R_types HO703.out BK705.out (by decide)) (fun _ hk => hk.2) (.int .i64 t693)) (fun _ hk => hk.2) (.int .i64 t694)) (fun _ hk => hk.2) (.int .i64 t695)) (fun _ hk => hk.2) (.int .i64 t696)) (fun _ hk => hk.2) (.int .i64 t697)) (fun _ hk => hk.2) (.slice Ao25 t698.length co25)) (fun _ hk => hk.2) (.slice Ao26 t701.length co26)) (fun _ h_ => h_.1)))); (case side8 => exact (Kd.R_reads' HO703.out).2.1); rintro e w35 ⟨rfl, hb⟩; replace HO1 := Aside0.mk (Kd.V_below (by (with_reducible repeat (first | apply Kd.V_alloc | apply Kd.V_drewN | apply Kd.V_drew)); exact (Kd.V_mono (Kd.V_far (p := ⟨gb705, 6, none⟩) (Kd.V_far (p := ⟨gb705, 5, none⟩) (Kd.V_far (p := ⟨gb705, 4, none⟩) (Kd.V_far (p := ⟨gb705, 3, none⟩) (Kd.V_far (p := ⟨gb705, 2, none⟩) (Kd.V_far (p := ⟨gb705, 1, none⟩) (Kd.V_far (p := ⟨gb705, 0, none⟩) (Kd.V_mono HO1.out (fun k_ hk => (⟨hk, hk.2⟩ : _ ∧ k_ ≠ gb705))) (fun _ hk => hk.2) (.int .i64 t693)) (fun _ hk => hk.2) (.int .i64 t694)) (fun _ hk => hk.2) (.int .i64 t695)) (fun _ hk => hk.2) (.int .i64 t696)) (fun _ hk => hk.2) (.int .i64 t697)) (fun _ hk => hk.2) (.slice Ao25 t698.length co25)) (fun _ hk => hk.2) (.slice Ao26 t701.length co26)) (fun _ h_ => h_.1))) hb); replace HO685 := Aside0.mk (Kd.R_below (by (with_reducible repeat (first | apply Kd.R_alloc | apply Kd.R_drewN | apply Kd.R_drew)); exact (Kd.R_mono (Kd.R_far (p := ⟨gb705, 6, none⟩) (Kd.R_far (p := ⟨gb705, 5, none⟩) (Kd.R_far (p := ⟨gb705, 4, none⟩) (Kd.R_far (p := ⟨gb705, 3, none⟩) (Kd.R_far (p := ⟨gb705, 2, none⟩) (Kd.R_far (p := ⟨gb705, 1, none⟩) (Kd.R_far (p := ⟨gb705, 0, none⟩) (Kd.R_types HO685.out BK705.out (by decide)) (fun _ hk => hk.2) (.int .i64 t693)) (fun _ hk => hk.2) (.int .i64 t694)) (fun _ hk => hk.2) (.int .i64 t695)) (fun _ hk => hk.2) (.int .i64 t696)) (fun _ hk => hk.2) (.int .i64 t697)) (fun _ hk => hk.2) (.slice Ao25 t698.length co25)) (fun _ hk => hk.2) (.slice Ao26 t701.length co26)) (fun _ h_ => h_.1))) hb); replace HO688 := Aside0.mk (Kd.R_below (by (with_reducible repeat (first | apply Kd.R_alloc | apply Kd.R_drewN | apply Kd.R_drew)); exact (Kd.R_mono (Kd.R_far (p := ⟨gb705, 6, none⟩) (Kd.R_far (p := ⟨gb705, 5, none⟩) (Kd.R_far (p := ⟨gb705, 4, none⟩) (Kd.R_far (p := ⟨gb705, 3, none⟩) (Kd.R_far (p := ⟨gb705, 2, none⟩) (Kd.R_far (p := ⟨gb705, 1, none⟩) (Kd.R_far (p := ⟨gb705, 0, none⟩) (Kd.R_types HO688.out BK705.out (by decide)) (fun _ hk => hk.2) (.int .i64 t693)) (fun _ hk => hk.2) (.int .i64 t694)) (fun _ hk => hk.2) (.int .i64 t695)) (fun _ hk => hk.2) (.int .i64 t696)) (fun _ hk => hk.2) (.int .i64 t697)) (fun _ hk => hk.2) (.slice Ao25 t698.length co25)) (fun _ hk => hk.2) (.slice Ao26 t701.length co26)) (fun _ h_ => h_.1))) hb); replace HO691 := Aside0.mk (Kd.R_below (by (with_reducible repeat (first | apply Kd.R_alloc | apply Kd.R_drewN | apply Kd.R_drew)); exact (Kd.R_mono (Kd.R_far (p := ⟨gb705, 6, none⟩) (Kd.R_far (p := ⟨gb705, 5, none⟩) (Kd.R_far (p := ⟨gb705, 4, none⟩) (Kd.R_far (p := ⟨gb705, 3, none⟩) (Kd.R_far (p := ⟨gb705, 2, none⟩) (Kd.R_far (p := ⟨gb705, 1, none⟩) (Kd.R_far (p := ⟨gb705, 0, none⟩) (Kd.R_types HO691.out BK705.out (by decide)) (fun _ hk => hk.2) (.int .i64 t693)) (fun _ hk => hk.2) (.int .i64 t694)) (fun _ hk => hk.2) (.int .i64 t695)) (fun _ hk => hk.2) (.int .i64 t696)) (fun _ hk => hk.2) (.int .i64 t697)) (fun _ hk => hk.2) (.slice Ao25 t698.length co25)) (fun _ hk => hk.2) (.slice Ao26 t701.length co26)) (fun _ h_ => h_.1))) hb); replace HO700 := Aside0.mk (Kd.R_below (by (with_reducible repeat (first | apply Kd.R_alloc | apply Kd.R_drewN | apply Kd.R_drew)); exact (Kd.R_mono (Kd.R_far (p := ⟨gb705, 6, none⟩) (Kd.R_far (p := ⟨gb705, 5, none⟩) (Kd.R_far (p := ⟨gb705, 4, none⟩) (Kd.R_far (p := ⟨gb705, 3, none⟩) (Kd.R_far (p := ⟨gb705, 2, none⟩) (Kd.R_far (p := ⟨gb705, 1, none⟩) (Kd.R_far (p := ⟨gb705, 0, none⟩) (Kd.R_types HO700.out BK705.out (by decide)) (fun _ hk => hk.2) (.int .i64 t693)) (fun _ hk => hk.2) (.int .i64 t694)) (fun _ hk => hk.2) (.int .i64 t695)) (fun _ hk => hk.2) (.int .i64 t696)) (fun _ hk => hk.2) (.int .i64 t697)) (fun _ hk => hk.2) (.slice Ao25 t698.length co25)) (fun _ hk => hk.2) (.slice Ao26 t701.length co26)) (fun _ h_ => h_.1))) hb); replace HO703 := Aside0.mk (Kd.R_below (by (with_reducible repeat (first | apply Kd.R_alloc | apply Kd.R_drewN | apply Kd.R_drew)); exact (Kd.R_mono (Kd.R_far (p := ⟨gb705, 6, none⟩) (Kd.R_far (p := ⟨gb705, 5, none⟩) (Kd.R_far (p := ⟨gb705, 4, none⟩) (Kd.R_far (p := ⟨gb705, 3, none⟩) (Kd.R_far (p := ⟨gb705, 2, none⟩) (Kd.R_far (p := ⟨gb705, 1, none⟩) (Kd.R_far (p := ⟨gb705, 0, none⟩) (Kd.R_types HO703.out BK705.out (by decide)) (fun _ hk => hk.2) (.int .i64 t693)) (fun _ hk => hk.2) (.int .i64 t694)) (fun _ hk => hk.2) (.int .i64 t695)) (fun _ hk => hk.2) (.int .i64 t696)) (fun _ hk => hk.2) (.int .i64 t697)) (fun _ hk => hk.2) (.slice Ao25 t698.length co25)) (fun _ hk => hk.2) (.slice Ao26 t701.length co26)) (fun _ h_ => h_.1))) hb); replace BK676 := Aside0.mk (blk_below (g := gb676) (o := .cells #[.int .i64 t678, .int .i64 t679, .int .i64 t680, .int .i64 t681, .int .i64 t682, .slice Ao13 t683.length co13, .slice Ao14 t686.length co14] 42 (0, 0)) (by (with_reducible repeat (first | refine blk_drewN ?_ _ | refine blk_drew ?_ | refine blk_alloc ?_ _)); refine blk_far ?_ NB676_705.out _; (with_reducible repeat (first | refine blk_drewN ?_ _ | refine blk_drew ?_ | refine blk_alloc ?_ _)); refine blk_far ?_ NB676_705.out _; (with_reducible repeat (first | refine blk_drewN ?_ _ | refine blk_drew ?_ | refine blk_alloc ?_ _)); refine blk_far ?_ NB676_705.out _; (with_reducible repeat (first | refine blk_drewN ?_ _ | refine blk_drew ?_ | refine blk_alloc ?_ _)); refine blk_far ?_ NB676_705.out _; (with_reducible repeat (first | refine blk_drewN ?_ _ | refine blk_drew ?_ | refine blk_alloc ?_ _)); refine blk_far ?_ NB676_705.out _; (with_reducible repeat (first | refine blk_drewN ?_ _ | refine blk_drew ?_ | refine blk_alloc ?_ _)); refine blk_far ?_ NB676_705.out _; (with_reducible repeat (first | refine blk_drewN ?_ _ | refine blk_drew ?_ | refine blk_alloc ?_ _)); refine blk_far ?_ NB676_705.out _; (with_reducible repeat (first | refine blk_drewN ?_ _ | refine blk_drew ?_ | refine blk_alloc ?_ _)); exact BK676.out) hb); replace BK677 := Aside0.mk (blk_below (g := gb677) (o := .cells #[.int .u8 a2_0, .int .u8 a2_1] 60 (0, 0)) (by (with_reducible repeat (first | refine blk_drewN ?_ _ | refine blk_drew ?_ | refine blk_alloc ?_ _)); refine blk_far ?_ NB677_705.out _; (with_reducible repeat (first | refine blk_drewN ?_ _ | refine blk_drew ?_ | refine blk_alloc ?_ _)); refine blk_far ?_ NB677_705.out _; (with_reducible repeat (first | refine blk_drewN ?_ _ | refine blk_drew ?_ | refine blk_alloc ?_ _)); refine blk_far ?_ NB677_705.out _; (with_reducible repeat (first | refine blk_drewN ?_ _ | refine blk_drew ?_ | refine blk_alloc ?_ _)); refine blk_far ?_ NB677_705.out _; (with_reducible repeat (first | refine blk_drewN ?_ _ | refine blk_drew ?_ | refine blk_alloc ?_ _)); refine blk_far ?_ NB677_705.out _; (with_reducible repeat (first | refine blk_drewN ?_ _ | refine blk_drew ?_ | refine blk_alloc ?_ _)); refine blk_far ?_ NB677_705.out _; (with_reducible repeat (first | refine blk_drewN ?_ _ | refine blk_drew ?_ | refine blk_alloc ?_ _)); refine blk_far ?_ NB677_705.out _; (with_reducible repeat (first | refine blk_drewN ?_ _ | refine blk_drew ?_ | refine blk_alloc ?_ _)); exact BK677.out) hb); replace BK705 := Aside0.mk (blk_below (g := gb705) (o := .cells #[.int .i64 t693, .int .i64 t694, .int .i64 t695, .int .i64 t696, .int .i64 t697, .slice Ao25 t698.length co25, .slice Ao26 t701.length co26] 42 (0, 0)) (by (with_reducible repeat (first | refine blk_drewN ?_ _ | refine blk_drew ?_ | refine blk_alloc ?_ _)); refine blk_put (cs := #[.int .i64 t693, .int .i64 t694, .int .i64 t695, .int .i64 t696, .int .i64 t697, .slice Ao25 t698.length co25, .slice none 0 0]) ?_ 6 _ rfl; (with_reducible repeat (first | refine blk_drewN ?_ _ | refine blk_drew ?_ | refine blk_alloc ?_ _)); refine blk_put (cs := #[.int .i64 t693, .int .i64 t694, .int .i64 t695, .int .i64 t696, .int .i64 t697, .slice none 0 0, .slice none 0 0]) ?_ 5 _ rfl; (with_reducible repeat (first | refine blk_drewN ?_ _ | refine blk_drew ?_ | refine blk_alloc ?_ _)); refine blk_put (cs := #[.int .i64 t693, .int .i64 t694, .int .i64 t695, .int .i64 t696, .int .i64 0, .slice none 0 0, .slice none 0 0]) ?_ 4 _ rfl; (with_reducible repeat (first | refine blk_drewN ?_ _ | refine blk_drew ?_ | refine blk_alloc ?_ _)); refine blk_put (cs := #[.int .i64 t693, .int .i64 t694, .int .i64 t695, .int .i64 0, .int .i64 0, .slice none 0 0, .slice none 0 0]) ?_ 3 _ rfl; (with_reducible repeat (first | refine blk_drewN ?_ _ | refine blk_drew ?_ | refine blk_alloc ?_ _)); refine blk_put (cs := #[.int .i64 t693, .int .i64 t694, .int .i64 0, .int .i64 0, .int .i64 0, .slice none 0 0, .slice none 0 0]) ?_ 2 _ rfl; (with_reducible repeat (first | refine blk_drewN ?_ _ | refine blk_drew ?_ | refine blk_alloc ?_ _)); refine blk_put (cs := #[.int .i64 t693, .int .i64 0, .int .i64 0, .int .i64 0, .int .i64 0, .slice none 0 0, .slice none 0 0]) ?_ 1 _ rfl; (with_reducible repeat (first | refine blk_drewN ?_ _ | refine blk_drew ?_ | refine blk_alloc ?_ _)); refine blk_put (cs := #[.int .i64 0, .int .i64 0, .int .i64 0, .int .i64 0, .int .i64 0, .slice none 0 0, .slice none 0 0]) ?_ 0 _ rfl; (with_reducible repeat (first | refine blk_drewN ?_ _ | refine blk_drew ?_ | refine blk_alloc ?_ _)); exact BK705.out) hb); replace HB := Aside0.mk (below_step (bs HB (by simp [ag, GE676.out, GE677.out, GE705.out])) hb); (try clear hb); (try clear hb2); (try clear hk); (try clear hi)))
      go_meet
      case rel => exact ⟨_, (((t689.length : Int) != 32)), (by first | rfl | (simp; done) | (simp [*]; done)), H', ⟨by first | omega | exact Nat.le_refl _⟩, ⟨Kd.V_mono (vk HO1) (fun _ hk => ⟨hk.1.1.1.1.1.1.1.1, ⟨hk.1.1.1.2, ⟨hk.1.1.1.1.1.2, ⟨hk.1.1.1.1.2, ⟨hk.1.1.2, ⟨hk.1.2, ⟨hk.1.1.1.1.1.1.1.2, ⟨hk.1.1.1.1.1.1.2, hk.2⟩⟩⟩⟩⟩⟩⟩⟩)⟩, ⟨Kd.R_mono (rk HO691) (fun _ hk => hk.1)⟩, ⟨Kd.R_mono (rk HO685) (fun _ hk => ⟨hk.1.1.1, ⟨hk.1.1.2, ⟨hk.1.2, hk.2⟩⟩⟩)⟩, ⟨Kd.R_mono (rk HO688) (fun _ hk => ⟨hk.1.1.1, ⟨hk.1.1.2, ⟨hk.1.2, hk.2⟩⟩⟩)⟩, ⟨Kd.R_mono (rk HO700) (fun _ hk => ⟨hk.1.1.1, ⟨hk.1.2, ⟨hk.2, hk.1.1.2⟩⟩⟩)⟩, ⟨Kd.R_mono (rk HO703) (fun _ hk => ⟨hk.1.1.1, ⟨hk.1.2, ⟨hk.2, hk.1.1.2⟩⟩⟩)⟩, ⟨bk BK676⟩, ⟨bk BK677⟩, ⟨bk BK705⟩, ⟨bs HB (by simp [ag, GE676.out, GE677.out, GE705.out])⟩⟩
     ·replace c29 := Bool.eq_false_iff.mpr c29
      subst c29
      have H1 : (selvedgelaw18_CylBack.j0 k l1 t689 true t678 t679 t680 t681 t682 t683 t686 a2_0 a2_1) = some r := by rw [if_neg (show ¬ (false = true) by decide)] at H; exact H
      clear H
      have H := H1
      clear H1
      have H' := Aside0.mk H
      clear H
      have hnb36 := NB676_677.out
      have hnc36 := NB677_676.out
      have hnb37 := NB676_705.out
      have hnc37 := NB705_676.out
      obtain ⟨hcz38_0, hcz38_1, hcz38_2, hcz38_3, hcz38_4, hcz38_5, hcz38_6, hfz38_0, hfz38_1, hfz38_2, hfz38_3, hfz38_4, hfz38_5, hfz38_6⟩ := cf7 BK676
      have hnb39 := NB705_677.out
      have hnc39 := NB677_705.out
      obtain ⟨hcz40_0, hcz40_1, hcz40_2, hcz40_3, hcz40_4, hcz40_5, hcz40_6, hfz40_0, hfz40_1, hfz40_2, hfz40_3, hfz40_4, hfz40_5, hfz40_6⟩ := cf7 BK705
      go_wp2_with (first | (go_at_call 28; (with_reducible refine (cyl_Same.calls k t678 t679 t680 t681 t682 _ _ t683 _ _ t686 t693 t694 t695 t696 t697 _ _ t698 _ _ t701 false _ ?side1 ?side2 ?side3 ?side4 ?side5 ?side6 ?side7 ?side8 A28.out).mono ?_); (case side1 => refine (Kd.R_reads' (e := 3) (base := w.heap.size) (ok := fun k_ => ((((w.heap.size ≤ k_) ∧ some k_ ≠ (.slice Ao14 t686.length co14 : Value).ownBlock) ∧ some k_ ≠ (.slice Ao25 t698.length co25 : Value).ownBlock) ∧ some k_ ≠ (.slice Ao26 t701.length co26 : Value).ownBlock)) (n := t683.length) (c := co13) ?_).2.2; exact (by (with_reducible repeat (first | apply Kd.R_alloc | apply Kd.R_drewN | apply Kd.R_drew)); exact (Kd.R_mono (Kd.R_far (p := ⟨gb705, 6, none⟩) (Kd.R_far (p := ⟨gb705, 5, none⟩) (Kd.R_far (p := ⟨gb705, 4, none⟩) (Kd.R_far (p := ⟨gb705, 3, none⟩) (Kd.R_far (p := ⟨gb705, 2, none⟩) (Kd.R_far (p := ⟨gb705, 1, none⟩) (Kd.R_far (p := ⟨gb705, 0, none⟩) (Kd.R_types HO685.out BK705.out (by decide)) (fun _ hk => hk.2) (.int .i64 t693)) (fun _ hk => hk.2) (.int .i64 t694)) (fun _ hk => hk.2) (.int .i64 t695)) (fun _ hk => hk.2) (.int .i64 t696)) (fun _ hk => hk.2) (.int .i64 t697)) (fun _ hk => hk.2) (.slice Ao25 t698.length co25)) (fun _ hk => hk.2) (.slice Ao26 t701.length co26)) (fun _ h_ => h_.1)))); (case side2 => exact (Kd.R_reads' HO685.out).2.1); (case side3 => refine (Kd.R_reads' (e := 3) (base := w.heap.size) (ok := fun k_ => ((((w.heap.size ≤ k_) ∧ some k_ ≠ (.slice Ao13 t683.length co13 : Value).ownBlock) ∧ some k_ ≠ (.slice Ao25 t698.length co25 : Value).ownBlock) ∧ some k_ ≠ (.slice Ao26 t701.length co26 : Value).ownBlock)) (n := t686.length) (c := co14) ?_).2.2; exact (by (with_reducible repeat (first | apply Kd.R_alloc | apply Kd.R_drewN | apply Kd.R_drew)); exact (Kd.R_mono (Kd.R_far (p := ⟨gb705, 6, none⟩) (Kd.R_far (p := ⟨gb705, 5, none⟩) (Kd.R_far (p := ⟨gb705, 4, none⟩) (Kd.R_far (p := ⟨gb705, 3, none⟩) (Kd.R_far (p := ⟨gb705, 2, none⟩) (Kd.R_far (p := ⟨gb705, 1, none⟩) (Kd.R_far (p := ⟨gb705, 0, none⟩) (Kd.R_types HO688.out BK705.out (by decide)) (fun _ hk => hk.2) (.int .i64 t693)) (fun _ hk => hk.2) (.int .i64 t694)) (fun _ hk => hk.2) (.int .i64 t695)) (fun _ hk => hk.2) (.int .i64 t696)) (fun _ hk => hk.2) (.int .i64 t697)) (fun _ hk => hk.2) (.slice Ao25 t698.length co25)) (fun _ hk => hk.2) (.slice Ao26 t701.length co26)) (fun _ h_ => h_.1)))); (case side4 => exact (Kd.R_reads' HO688.out).2.1); (case side5 => refine (Kd.R_reads' (e := 3) (base := w.heap.size) (ok := fun k_ => ((((w.heap.size ≤ k_) ∧ some k_ ≠ (.slice Ao26 t701.length co26 : Value).ownBlock) ∧ some k_ ≠ (.slice Ao13 t683.length co13 : Value).ownBlock) ∧ some k_ ≠ (.slice Ao14 t686.length co14 : Value).ownBlock)) (n := t698.length) (c := co25) ?_).2.2; exact (by (with_reducible repeat (first | apply Kd.R_alloc | apply Kd.R_drewN | apply Kd.R_drew)); exact (Kd.R_mono (Kd.R_far (p := ⟨gb705, 6, none⟩) (Kd.R_far (p := ⟨gb705, 5, none⟩) (Kd.R_far (p := ⟨gb705, 4, none⟩) (Kd.R_far (p := ⟨gb705, 3, none⟩) (Kd.R_far (p := ⟨gb705, 2, none⟩) (Kd.R_far (p := ⟨gb705, 1, none⟩) (Kd.R_far (p := ⟨gb705, 0, none⟩) (Kd.R_types HO700.out BK705.out (by decide)) (fun _ hk => hk.2) (.int .i64 t693)) (fun _ hk => hk.2) (.int .i64 t694)) (fun _ hk => hk.2) (.int .i64 t695)) (fun _ hk => hk.2) (.int .i64 t696)) (fun _ hk => hk.2) (.int .i64 t697)) (fun _ hk => hk.2) (.slice Ao25 t698.length co25)) (fun _ hk => hk.2) (.slice Ao26 t701.length co26)) (fun _ h_ => h_.1)))); (case side6 => exact (Kd.R_reads' HO700.out).2.1); (case side7 => refine (Kd.R_reads' (e := 3) (base := w.heap.size) (ok := fun k_ => ((((w.heap.size ≤ k_) ∧ some k_ ≠ (.slice Ao25 t698.length co25 : Value).ownBlock) ∧ some k_ ≠ (.slice Ao13 t683.length co13 : Value).ownBlock) ∧ some k_ ≠ (.slice Ao14 t686.length co14 : Value).ownBlock)) (n := t701.length) (c := co26) ?_).2.2; exact (by (with_reducible repeat (first | apply Kd.R_alloc | apply Kd.R_drewN | apply Kd.R_drew)); exact (Kd.R_mono (Kd.R_far (p := ⟨gb705, 6, none⟩) (Kd.R_far (p := ⟨gb705, 5, none⟩) (Kd.R_far (p := ⟨gb705, 4, none⟩) (Kd.R_far (p := ⟨gb705, 3, none⟩) (Kd.R_far (p := ⟨gb705, 2, none⟩) (Kd.R_far (p := ⟨gb705, 1, none⟩) (Kd.R_far (p := ⟨gb705, 0, none⟩) (Kd.R_types HO703.out BK705.out (by decide)) (fun _ hk => hk.2) (.int .i64 t693)) (fun _ hk => hk.2) (.int .i64 t694)) (fun _ hk => hk.2) (.int .i64 t695)) (fun _ hk => hk.2) (.int .i64 t696)) (fun _ hk => hk.2) (.int .i64 t697)) (fun _ hk => hk.2) (.slice Ao25 t698.length co25)) (fun _ hk => hk.2) (.slice Ao26 t701.length co26)) (fun _ h_ => h_.1)))); (case side8 => exact (Kd.R_reads' HO703.out).2.1); rintro e w41 ⟨rfl, hb⟩; replace HO1 := Aside0.mk (Kd.V_below (by (with_reducible repeat (first | apply Kd.V_alloc | apply Kd.V_drewN | apply Kd.V_drew)); exact (Kd.V_mono (Kd.V_far (p := ⟨gb705, 6, none⟩) (Kd.V_far (p := ⟨gb705, 5, none⟩) (Kd.V_far (p := ⟨gb705, 4, none⟩) (Kd.V_far (p := ⟨gb705, 3, none⟩) (Kd.V_far (p := ⟨gb705, 2, none⟩) (Kd.V_far (p := ⟨gb705, 1, none⟩) (Kd.V_far (p := ⟨gb705, 0, none⟩) (Kd.V_mono HO1.out (fun k_ hk => (⟨hk, hk.2⟩ : _ ∧ k_ ≠ gb705))) (fun _ hk => hk.2) (.int .i64 t693)) (fun _ hk => hk.2) (.int .i64 t694)) (fun _ hk => hk.2) (.int .i64 t695)) (fun _ hk => hk.2) (.int .i64 t696)) (fun _ hk => hk.2) (.int .i64 t697)) (fun _ hk => hk.2) (.slice Ao25 t698.length co25)) (fun _ hk => hk.2) (.slice Ao26 t701.length co26)) (fun _ h_ => h_.1))) hb); replace HO685 := Aside0.mk (Kd.R_below (by (with_reducible repeat (first | apply Kd.R_alloc | apply Kd.R_drewN | apply Kd.R_drew)); exact (Kd.R_mono (Kd.R_far (p := ⟨gb705, 6, none⟩) (Kd.R_far (p := ⟨gb705, 5, none⟩) (Kd.R_far (p := ⟨gb705, 4, none⟩) (Kd.R_far (p := ⟨gb705, 3, none⟩) (Kd.R_far (p := ⟨gb705, 2, none⟩) (Kd.R_far (p := ⟨gb705, 1, none⟩) (Kd.R_far (p := ⟨gb705, 0, none⟩) (Kd.R_types HO685.out BK705.out (by decide)) (fun _ hk => hk.2) (.int .i64 t693)) (fun _ hk => hk.2) (.int .i64 t694)) (fun _ hk => hk.2) (.int .i64 t695)) (fun _ hk => hk.2) (.int .i64 t696)) (fun _ hk => hk.2) (.int .i64 t697)) (fun _ hk => hk.2) (.slice Ao25 t698.length co25)) (fun _ hk => hk.2) (.slice Ao26 t701.length co26)) (fun _ h_ => h_.1))) hb); replace HO688 := Aside0.mk (Kd.R_below (by (with_reducible repeat (first | apply Kd.R_alloc | apply Kd.R_drewN | apply Kd.R_drew)); exact (Kd.R_mono (Kd.R_far (p := ⟨gb705, 6, none⟩) (Kd.R_far (p := ⟨gb705, 5, none⟩) (Kd.R_far (p := ⟨gb705, 4, none⟩) (Kd.R_far (p := ⟨gb705, 3, none⟩) (Kd.R_far (p := ⟨gb705, 2, none⟩) (Kd.R_far (p := ⟨gb705, 1, none⟩) (Kd.R_far (p := ⟨gb705, 0, none⟩) (Kd.R_types HO688.out BK705.out (by decide)) (fun _ hk => hk.2) (.int .i64 t693)) (fun _ hk => hk.2) (.int .i64 t694)) (fun _ hk => hk.2) (.int .i64 t695)) (fun _ hk => hk.2) (.int .i64 t696)) (fun _ hk => hk.2) (.int .i64 t697)) (fun _ hk => hk.2) (.slice Ao25 t698.length co25)) (fun _ hk => hk.2) (.slice Ao26 t701.length co26)) (fun _ h_ => h_.1))) hb); replace HO691 := Aside0.mk (Kd.R_below (by (with_reducible repeat (first | apply Kd.R_alloc | apply Kd.R_drewN | apply Kd.R_drew)); exact (Kd.R_mono (Kd.R_far (p := ⟨gb705, 6, none⟩) (Kd.R_far (p := ⟨gb705, 5, none⟩) (Kd.R_far (p := ⟨gb705, 4, none⟩) (Kd.R_far (p := ⟨gb705, 3, none⟩) (Kd.R_far (p := ⟨gb705, 2, none⟩) (Kd.R_far (p := ⟨gb705, 1, none⟩) (Kd.R_far (p := ⟨gb705, 0, none⟩) (Kd.R_types HO691.out BK705.out (by decide)) (fun _ hk => hk.2) (.int .i64 t693)) (fun _ hk => hk.2) (.int .i64 t694)) (fun _ hk => hk.2) (.int .i64 t695)) (fun _ hk => hk.2) (.int .i64 t696)) (fun _ hk => hk.2) (.int .i64 t697)) (fun _ hk => hk.2) (.slice Ao25 t698.length co25)) (fun _ hk => hk.2) (.slice Ao26 t701.length co26)) (fun _ h_ => h_.1))) hb); replace HO700 := Aside0.mk (Kd.R_below (by (with_reducible repeat (first | apply Kd.R_alloc | apply Kd.R_drewN | apply Kd.R_drew)); exact (Kd.R_mono (Kd.R_far (p := ⟨gb705, 6, none⟩) (Kd.R_far (p := ⟨gb705, 5, none⟩) (Kd.R_far (p := ⟨gb705, 4, none⟩) (Kd.R_far (p := ⟨gb705, 3, none⟩) (Kd.R_far (p := ⟨gb705, 2, none⟩) (Kd.R_far (p := ⟨gb705, 1, none⟩) (Kd.R_far (p := ⟨gb705, 0, none⟩) (Kd.R_types HO700.out BK705.out (by decide)) (fun _ hk => hk.2) (.int .i64 t693)) (fun _ hk => hk.2) (.int .i64 t694)) (fun _ hk => hk.2) (.int .i64 t695)) (fun _ hk => hk.2) (.int .i64 t696)) (fun _ hk => hk.2) (.int .i64 t697)) (fun _ hk => hk.2) (.slice Ao25 t698.length co25)) (fun _ hk => hk.2) (.slice Ao26 t701.length co26)) (fun _ h_ => h_.1))) hb); replace HO703 := Aside0.mk (Kd.R_below (by (with_reducible repeat (first | apply Kd.R_alloc | apply Kd.R_drewN | apply Kd.R_drew)); exact (Kd.R_mono (Kd.R_far (p := ⟨gb705, 6, none⟩) (Kd.R_far (p := ⟨gb705, 5, none⟩) (Kd.R_far (p := ⟨gb705, 4, none⟩) (Kd.R_far (p := ⟨gb705, 3, none⟩) (Kd.R_far (p := ⟨gb705, 2, none⟩) (Kd.R_far (p := ⟨gb705, 1, none⟩) (Kd.R_far (p := ⟨gb705, 0, none⟩) (Kd.R_types HO703.out BK705.out (by decide)) (fun _ hk => hk.2) (.int .i64 t693)) (fun _ hk => hk.2) (.int .i64 t694)) (fun _ hk => hk.2) (.int .i64 t695)) (fun _ hk => hk.2) (.int .i64 t696)) (fun _ hk => hk.2) (.int .i64 t697)) (fun _ hk => hk.2) (.slice Ao25 t698.length co25)) (fun _ hk => hk.2) (.slice Ao26 t701.length co26)) (fun _ h_ => h_.1))) hb); replace BK676 := Aside0.mk (blk_below (g := gb676) (o := .cells #[.int .i64 t678, .int .i64 t679, .int .i64 t680, .int .i64 t681, .int .i64 t682, .slice Ao13 t683.length co13, .slice Ao14 t686.length co14] 42 (0, 0)) (by (with_reducible repeat (first | refine blk_drewN ?_ _ | refine blk_drew ?_ | refine blk_alloc ?_ _)); refine blk_far ?_ NB676_705.out _; (with_reducible repeat (first | refine blk_drewN ?_ _ | refine blk_drew ?_ | refine blk_alloc ?_ _)); refine blk_far ?_ NB676_705.out _; (with_reducible repeat (first | refine blk_drewN ?_ _ | refine blk_drew ?_ | refine blk_alloc ?_ _)); refine blk_far ?_ NB676_705.out _; (with_reducible repeat (first | refine blk_drewN ?_ _ | refine blk_drew ?_ | refine blk_alloc ?_ _)); refine blk_far ?_ NB676_705.out _; (with_reducible repeat (first | refine blk_drewN ?_ _ | refine blk_drew ?_ | refine blk_alloc ?_ _)); refine blk_far ?_ NB676_705.out _; (with_reducible repeat (first | refine blk_drewN ?_ _ | refine blk_drew ?_ | refine blk_alloc ?_ _)); refine blk_far ?_ NB676_705.out _; (with_reducible repeat (first | refine blk_drewN ?_ _ | refine blk_drew ?_ | refine blk_alloc ?_ _)); refine blk_far ?_ NB676_705.out _; (with_reducible repeat (first | refine blk_drewN ?_ _ | refine blk_drew ?_ | refine blk_alloc ?_ _)); exact BK676.out) hb); replace BK677 := Aside0.mk (blk_below (g := gb677) (o := .cells #[.int .u8 a2_0, .int .u8 a2_1] 60 (0, 0)) (by (with_reducible repeat (first | refine blk_drewN ?_ _ | refine blk_drew ?_ | refine blk_alloc ?_ _)); refine blk_far ?_ NB677_705.out _; (with_reducible repeat (first | refine blk_drewN ?_ _ | refine blk_drew ?_ | refine blk_alloc ?_ _)); refine blk_far ?_ NB677_705.out _; (with_reducible repeat (first | refine blk_drewN ?_ _ | refine blk_drew ?_ | refine blk_alloc ?_ _)); refine blk_far ?_ NB677_705.out _; (with_reducible repeat (first | refine blk_drewN ?_ _ | refine blk_drew ?_ | refine blk_alloc ?_ _)); refine blk_far ?_ NB677_705.out _; (with_reducible repeat (first | refine blk_drewN ?_ _ | refine blk_drew ?_ | refine blk_alloc ?_ _)); refine blk_far ?_ NB677_705.out _; (with_reducible repeat (first | refine blk_drewN ?_ _ | refine blk_drew ?_ | refine blk_alloc ?_ _)); refine blk_far ?_ NB677_705.out _; (with_reducible repeat (first | refine blk_drewN ?_ _ | refine blk_drew ?_ | refine blk_alloc ?_ _)); refine blk_far ?_ NB677_705.out _; (with_reducible repeat (first | refine blk_drewN ?_ _ | refine blk_drew ?_ | refine blk_alloc ?_ _)); exact BK677.out) hb); replace BK705 := Aside0.mk (blk_below (g := gb705) (o := .cells #[.int .i64 t693, .int .i64 t694, .int .i64 t695, .int .i64 t696, .int .i64 t697, .slice Ao25 t698.length co25, .slice Ao26 t701.length co26] 42 (0, 0)) (by (with_reducible repeat (first | refine blk_drewN ?_ _ | refine blk_drew ?_ | refine blk_alloc ?_ _)); refine blk_put (cs := #[.int .i64 t693, .int .i64 t694, .int .i64 t695, .int .i64 t696, .int .i64 t697, .slice Ao25 t698.length co25, .slice none 0 0]) ?_ 6 _ rfl; (with_reducible repeat (first | refine blk_drewN ?_ _ | refine blk_drew ?_ | refine blk_alloc ?_ _)); refine blk_put (cs := #[.int .i64 t693, .int .i64 t694, .int .i64 t695, .int .i64 t696, .int .i64 t697, .slice none 0 0, .slice none 0 0]) ?_ 5 _ rfl; (with_reducible repeat (first | refine blk_drewN ?_ _ | refine blk_drew ?_ | refine blk_alloc ?_ _)); refine blk_put (cs := #[.int .i64 t693, .int .i64 t694, .int .i64 t695, .int .i64 t696, .int .i64 0, .slice none 0 0, .slice none 0 0]) ?_ 4 _ rfl; (with_reducible repeat (first | refine blk_drewN ?_ _ | refine blk_drew ?_ | refine blk_alloc ?_ _)); refine blk_put (cs := #[.int .i64 t693, .int .i64 t694, .int .i64 t695, .int .i64 0, .int .i64 0, .slice none 0 0, .slice none 0 0]) ?_ 3 _ rfl; (with_reducible repeat (first | refine blk_drewN ?_ _ | refine blk_drew ?_ | refine blk_alloc ?_ _)); refine blk_put (cs := #[.int .i64 t693, .int .i64 t694, .int .i64 0, .int .i64 0, .int .i64 0, .slice none 0 0, .slice none 0 0]) ?_ 2 _ rfl; (with_reducible repeat (first | refine blk_drewN ?_ _ | refine blk_drew ?_ | refine blk_alloc ?_ _)); refine blk_put (cs := #[.int .i64 t693, .int .i64 0, .int .i64 0, .int .i64 0, .int .i64 0, .slice none 0 0, .slice none 0 0]) ?_ 1 _ rfl; (with_reducible repeat (first | refine blk_drewN ?_ _ | refine blk_drew ?_ | refine blk_alloc ?_ _)); refine blk_put (cs := #[.int .i64 0, .int .i64 0, .int .i64 0, .int .i64 0, .int .i64 0, .slice none 0 0, .slice none 0 0]) ?_ 0 _ rfl; (with_reducible repeat (first | refine blk_drewN ?_ _ | refine blk_drew ?_ | refine blk_alloc ?_ _)); exact BK705.out) hb); replace HB := Aside0.mk (below_step (bs HB (by simp [ag, GE676.out, GE677.out, GE705.out])) hb); (try clear hb); (try clear hb2); (try clear hk); (try clear hi)))
      go_meet
      case rel => exact ⟨_, (true), (by first | rfl | (simp; done) | (simp [*]; done)), H', ⟨by first | omega | exact Nat.le_refl _⟩, ⟨Kd.V_mono (vk HO1) (fun _ hk => ⟨hk.1.1.1.1.1.1.1.1, ⟨hk.1.1.1.2, ⟨hk.1.1.1.1.1.2, ⟨hk.1.1.1.1.2, ⟨hk.1.1.2, ⟨hk.1.2, ⟨hk.1.1.1.1.1.1.1.2, ⟨hk.1.1.1.1.1.1.2, hk.2⟩⟩⟩⟩⟩⟩⟩⟩)⟩, ⟨Kd.R_mono (rk HO691) (fun _ hk => hk.1)⟩, ⟨Kd.R_mono (rk HO685) (fun _ hk => ⟨hk.1.1.1, ⟨hk.1.1.2, ⟨hk.1.2, hk.2⟩⟩⟩)⟩, ⟨Kd.R_mono (rk HO688) (fun _ hk => ⟨hk.1.1.1, ⟨hk.1.1.2, ⟨hk.1.2, hk.2⟩⟩⟩)⟩, ⟨Kd.R_mono (rk HO700) (fun _ hk => ⟨hk.1.1.1, ⟨hk.1.2, ⟨hk.2, hk.1.1.2⟩⟩⟩)⟩, ⟨Kd.R_mono (rk HO703) (fun _ hk => ⟨hk.1.1.1, ⟨hk.1.2, ⟨hk.2, hk.1.1.2⟩⟩⟩)⟩, ⟨bk BK676⟩, ⟨bk BK677⟩, ⟨bk BK705⟩, ⟨bs HB (by simp [ag, GE676.out, GE677.out, GE705.out])⟩⟩
    ·rw [if_neg c27] at H
     have c27b0 : (t704 == 0) = false := beq_eq_false_iff_ne.mpr c27
     have c27b1 : (t704 != 0) = true := bne_iff_ne.mpr c27
     (first | rw [c27b0] | (simp only [i64_w, i32_w]; rw [c27b0]) | skip)
     have H' := Aside0.mk H
     clear H
     go_wp2
     go_meet
     case rel => exact ⟨_, (true), (by first | rfl | (simp; done) | (simp [*]; done)), H', ⟨by first | omega | exact Nat.le_refl _⟩, ⟨by (with_reducible repeat (first | apply Kd.V_alloc | apply Kd.V_drewN | apply Kd.V_drew)); exact Kd.V_mono (Kd.V_far (p := ⟨gb705, 6, none⟩) (Kd.V_far (p := ⟨gb705, 5, none⟩) (Kd.V_far (p := ⟨gb705, 4, none⟩) (Kd.V_far (p := ⟨gb705, 3, none⟩) (Kd.V_far (p := ⟨gb705, 2, none⟩) (Kd.V_far (p := ⟨gb705, 1, none⟩) (Kd.V_far (p := ⟨gb705, 0, none⟩) (Kd.V_mono HO1.out (fun k_ hk => (⟨hk, hk.2⟩ : _ ∧ k_ ≠ gb705))) (fun _ hk => hk.2) (.int .i64 t693)) (fun _ hk => hk.2) (.int .i64 t694)) (fun _ hk => hk.2) (.int .i64 t695)) (fun _ hk => hk.2) (.int .i64 t696)) (fun _ hk => hk.2) (.int .i64 t697)) (fun _ hk => hk.2) (.slice Ao25 t698.length co25)) (fun _ hk => hk.2) (.slice Ao26 t701.length co26)) (fun _ hk => ⟨hk.1.1.1.1.1.1.1.1.1, ⟨hk.1.1.1.1.2, ⟨hk.1.1.1.1.1.1.2, ⟨hk.1.1.1.1.1.2, ⟨hk.1.1.1.2, ⟨hk.1.1.2, ⟨hk.1.1.1.1.1.1.1.1.2, ⟨hk.1.1.1.1.1.1.1.2, hk.1.2⟩⟩⟩⟩⟩⟩⟩⟩)⟩, ⟨by (with_reducible repeat (first | apply Kd.R_alloc | apply Kd.R_drewN | apply Kd.R_drew)); exact Kd.R_mono (Kd.R_far (p := ⟨gb705, 6, none⟩) (Kd.R_far (p := ⟨gb705, 5, none⟩) (Kd.R_far (p := ⟨gb705, 4, none⟩) (Kd.R_far (p := ⟨gb705, 3, none⟩) (Kd.R_far (p := ⟨gb705, 2, none⟩) (Kd.R_far (p := ⟨gb705, 1, none⟩) (Kd.R_far (p := ⟨gb705, 0, none⟩) (Kd.R_types HO691.out BK705.out (by decide)) (fun _ hk => hk.2) (.int .i64 t693)) (fun _ hk => hk.2) (.int .i64 t694)) (fun _ hk => hk.2) (.int .i64 t695)) (fun _ hk => hk.2) (.int .i64 t696)) (fun _ hk => hk.2) (.int .i64 t697)) (fun _ hk => hk.2) (.slice Ao25 t698.length co25)) (fun _ hk => hk.2) (.slice Ao26 t701.length co26)) (fun _ hk => hk.1.1)⟩, ⟨by (with_reducible repeat (first | apply Kd.R_alloc | apply Kd.R_drewN | apply Kd.R_drew)); exact Kd.R_mono (Kd.R_far (p := ⟨gb705, 6, none⟩) (Kd.R_far (p := ⟨gb705, 5, none⟩) (Kd.R_far (p := ⟨gb705, 4, none⟩) (Kd.R_far (p := ⟨gb705, 3, none⟩) (Kd.R_far (p := ⟨gb705, 2, none⟩) (Kd.R_far (p := ⟨gb705, 1, none⟩) (Kd.R_far (p := ⟨gb705, 0, none⟩) (Kd.R_types HO685.out BK705.out (by decide)) (fun _ hk => hk.2) (.int .i64 t693)) (fun _ hk => hk.2) (.int .i64 t694)) (fun _ hk => hk.2) (.int .i64 t695)) (fun _ hk => hk.2) (.int .i64 t696)) (fun _ hk => hk.2) (.int .i64 t697)) (fun _ hk => hk.2) (.slice Ao25 t698.length co25)) (fun _ hk => hk.2) (.slice Ao26 t701.length co26)) (fun _ hk => ⟨hk.1.1.1.1, ⟨hk.1.1.1.2, ⟨hk.1.1.2, hk.1.2⟩⟩⟩)⟩, ⟨by (with_reducible repeat (first | apply Kd.R_alloc | apply Kd.R_drewN | apply Kd.R_drew)); exact Kd.R_mono (Kd.R_far (p := ⟨gb705, 6, none⟩) (Kd.R_far (p := ⟨gb705, 5, none⟩) (Kd.R_far (p := ⟨gb705, 4, none⟩) (Kd.R_far (p := ⟨gb705, 3, none⟩) (Kd.R_far (p := ⟨gb705, 2, none⟩) (Kd.R_far (p := ⟨gb705, 1, none⟩) (Kd.R_far (p := ⟨gb705, 0, none⟩) (Kd.R_types HO688.out BK705.out (by decide)) (fun _ hk => hk.2) (.int .i64 t693)) (fun _ hk => hk.2) (.int .i64 t694)) (fun _ hk => hk.2) (.int .i64 t695)) (fun _ hk => hk.2) (.int .i64 t696)) (fun _ hk => hk.2) (.int .i64 t697)) (fun _ hk => hk.2) (.slice Ao25 t698.length co25)) (fun _ hk => hk.2) (.slice Ao26 t701.length co26)) (fun _ hk => ⟨hk.1.1.1.1, ⟨hk.1.1.1.2, ⟨hk.1.1.2, hk.1.2⟩⟩⟩)⟩, ⟨by (with_reducible repeat (first | apply Kd.R_alloc | apply Kd.R_drewN | apply Kd.R_drew)); exact Kd.R_mono (Kd.R_far (p := ⟨gb705, 6, none⟩) (Kd.R_far (p := ⟨gb705, 5, none⟩) (Kd.R_far (p := ⟨gb705, 4, none⟩) (Kd.R_far (p := ⟨gb705, 3, none⟩) (Kd.R_far (p := ⟨gb705, 2, none⟩) (Kd.R_far (p := ⟨gb705, 1, none⟩) (Kd.R_far (p := ⟨gb705, 0, none⟩) (Kd.R_types HO700.out BK705.out (by decide)) (fun _ hk => hk.2) (.int .i64 t693)) (fun _ hk => hk.2) (.int .i64 t694)) (fun _ hk => hk.2) (.int .i64 t695)) (fun _ hk => hk.2) (.int .i64 t696)) (fun _ hk => hk.2) (.int .i64 t697)) (fun _ hk => hk.2) (.slice Ao25 t698.length co25)) (fun _ hk => hk.2) (.slice Ao26 t701.length co26)) (fun _ hk => ⟨hk.1.1.1.1, ⟨hk.1.1.2, ⟨hk.1.2, hk.1.1.1.2⟩⟩⟩)⟩, ⟨by (with_reducible repeat (first | apply Kd.R_alloc | apply Kd.R_drewN | apply Kd.R_drew)); exact Kd.R_mono (Kd.R_far (p := ⟨gb705, 6, none⟩) (Kd.R_far (p := ⟨gb705, 5, none⟩) (Kd.R_far (p := ⟨gb705, 4, none⟩) (Kd.R_far (p := ⟨gb705, 3, none⟩) (Kd.R_far (p := ⟨gb705, 2, none⟩) (Kd.R_far (p := ⟨gb705, 1, none⟩) (Kd.R_far (p := ⟨gb705, 0, none⟩) (Kd.R_types HO703.out BK705.out (by decide)) (fun _ hk => hk.2) (.int .i64 t693)) (fun _ hk => hk.2) (.int .i64 t694)) (fun _ hk => hk.2) (.int .i64 t695)) (fun _ hk => hk.2) (.int .i64 t696)) (fun _ hk => hk.2) (.int .i64 t697)) (fun _ hk => hk.2) (.slice Ao25 t698.length co25)) (fun _ hk => hk.2) (.slice Ao26 t701.length co26)) (fun _ hk => ⟨hk.1.1.1.1, ⟨hk.1.1.2, ⟨hk.1.2, hk.1.1.1.2⟩⟩⟩)⟩, ⟨by (with_reducible repeat (first | refine blk_drewN ?_ _ | refine blk_drew ?_ | refine blk_alloc ?_ _)); refine blk_far ?_ NB676_705.out _; (with_reducible repeat (first | refine blk_drewN ?_ _ | refine blk_drew ?_ | refine blk_alloc ?_ _)); refine blk_far ?_ NB676_705.out _; (with_reducible repeat (first | refine blk_drewN ?_ _ | refine blk_drew ?_ | refine blk_alloc ?_ _)); refine blk_far ?_ NB676_705.out _; (with_reducible repeat (first | refine blk_drewN ?_ _ | refine blk_drew ?_ | refine blk_alloc ?_ _)); refine blk_far ?_ NB676_705.out _; (with_reducible repeat (first | refine blk_drewN ?_ _ | refine blk_drew ?_ | refine blk_alloc ?_ _)); refine blk_far ?_ NB676_705.out _; (with_reducible repeat (first | refine blk_drewN ?_ _ | refine blk_drew ?_ | refine blk_alloc ?_ _)); refine blk_far ?_ NB676_705.out _; (with_reducible repeat (first | refine blk_drewN ?_ _ | refine blk_drew ?_ | refine blk_alloc ?_ _)); refine blk_far ?_ NB676_705.out _; (with_reducible repeat (first | refine blk_drewN ?_ _ | refine blk_drew ?_ | refine blk_alloc ?_ _)); exact BK676.out⟩, ⟨by (with_reducible repeat (first | refine blk_drewN ?_ _ | refine blk_drew ?_ | refine blk_alloc ?_ _)); refine blk_far ?_ NB677_705.out _; (with_reducible repeat (first | refine blk_drewN ?_ _ | refine blk_drew ?_ | refine blk_alloc ?_ _)); refine blk_far ?_ NB677_705.out _; (with_reducible repeat (first | refine blk_drewN ?_ _ | refine blk_drew ?_ | refine blk_alloc ?_ _)); refine blk_far ?_ NB677_705.out _; (with_reducible repeat (first | refine blk_drewN ?_ _ | refine blk_drew ?_ | refine blk_alloc ?_ _)); refine blk_far ?_ NB677_705.out _; (with_reducible repeat (first | refine blk_drewN ?_ _ | refine blk_drew ?_ | refine blk_alloc ?_ _)); refine blk_far ?_ NB677_705.out _; (with_reducible repeat (first | refine blk_drewN ?_ _ | refine blk_drew ?_ | refine blk_alloc ?_ _)); refine blk_far ?_ NB677_705.out _; (with_reducible repeat (first | refine blk_drewN ?_ _ | refine blk_drew ?_ | refine blk_alloc ?_ _)); refine blk_far ?_ NB677_705.out _; (with_reducible repeat (first | refine blk_drewN ?_ _ | refine blk_drew ?_ | refine blk_alloc ?_ _)); exact BK677.out⟩, ⟨by (with_reducible repeat (first | refine blk_drewN ?_ _ | refine blk_drew ?_ | refine blk_alloc ?_ _)); refine blk_put (cs := #[.int .i64 t693, .int .i64 t694, .int .i64 t695, .int .i64 t696, .int .i64 t697, .slice Ao25 t698.length co25, .slice none 0 0]) ?_ 6 _ rfl; (with_reducible repeat (first | refine blk_drewN ?_ _ | refine blk_drew ?_ | refine blk_alloc ?_ _)); refine blk_put (cs := #[.int .i64 t693, .int .i64 t694, .int .i64 t695, .int .i64 t696, .int .i64 t697, .slice none 0 0, .slice none 0 0]) ?_ 5 _ rfl; (with_reducible repeat (first | refine blk_drewN ?_ _ | refine blk_drew ?_ | refine blk_alloc ?_ _)); refine blk_put (cs := #[.int .i64 t693, .int .i64 t694, .int .i64 t695, .int .i64 t696, .int .i64 0, .slice none 0 0, .slice none 0 0]) ?_ 4 _ rfl; (with_reducible repeat (first | refine blk_drewN ?_ _ | refine blk_drew ?_ | refine blk_alloc ?_ _)); refine blk_put (cs := #[.int .i64 t693, .int .i64 t694, .int .i64 t695, .int .i64 0, .int .i64 0, .slice none 0 0, .slice none 0 0]) ?_ 3 _ rfl; (with_reducible repeat (first | refine blk_drewN ?_ _ | refine blk_drew ?_ | refine blk_alloc ?_ _)); refine blk_put (cs := #[.int .i64 t693, .int .i64 t694, .int .i64 0, .int .i64 0, .int .i64 0, .slice none 0 0, .slice none 0 0]) ?_ 2 _ rfl; (with_reducible repeat (first | refine blk_drewN ?_ _ | refine blk_drew ?_ | refine blk_alloc ?_ _)); refine blk_put (cs := #[.int .i64 t693, .int .i64 0, .int .i64 0, .int .i64 0, .int .i64 0, .slice none 0 0, .slice none 0 0]) ?_ 1 _ rfl; (with_reducible repeat (first | refine blk_drewN ?_ _ | refine blk_drew ?_ | refine blk_alloc ?_ _)); refine blk_put (cs := #[.int .i64 0, .int .i64 0, .int .i64 0, .int .i64 0, .int .i64 0, .slice none 0 0, .slice none 0 0]) ?_ 0 _ rfl; (with_reducible repeat (first | refine blk_drewN ?_ _ | refine blk_drew ?_ | refine blk_alloc ?_ _)); exact BK705.out⟩, ⟨bs HB (by simp [ag, GE676.out, GE677.out, GE705.out])⟩⟩
   case rest =>
    clear HC18
    try clear c1
    try clear c2
    try clear p2
    try clear c3
    try clear c8
    try clear c9
    try clear c16
    try clear c16b0
    try clear c16b1
    try clear c22
    try clear c23
    try clear c25
    try clear c27
    try clear c27b0
    try clear c27b1
    try clear c29
    try clear c30
    try clear c31
    try clear c32
    try clear c33
    try clear c36
    try clear c37
    try clear c39
    try clear hcz10_0
    try clear hcz10_1
    try clear hcz10_2
    try clear hcz10_3
    try clear hcz10_4
    try clear hcz10_5
    try clear hcz10_6
    try clear hcz12_0
    try clear hcz12_1
    try clear hcz12_2
    try clear hcz12_3
    try clear hcz12_4
    try clear hcz12_5
    try clear hcz12_6
    try clear hcz24_0
    try clear hcz24_1
    try clear hcz24_2
    try clear hcz24_3
    try clear hcz24_4
    try clear hcz24_5
    try clear hcz24_6
    try clear hcz32_0
    try clear hcz32_1
    try clear hcz32_2
    try clear hcz32_3
    try clear hcz32_4
    try clear hcz32_5
    try clear hcz32_6
    try clear hcz34_0
    try clear hcz34_1
    try clear hcz34_2
    try clear hcz34_3
    try clear hcz34_4
    try clear hcz34_5
    try clear hcz34_6
    try clear hcz38_0
    try clear hcz38_1
    try clear hcz38_2
    try clear hcz38_3
    try clear hcz38_4
    try clear hcz38_5
    try clear hcz38_6
    try clear hcz40_0
    try clear hcz40_1
    try clear hcz40_2
    try clear hcz40_3
    try clear hcz40_4
    try clear hcz40_5
    try clear hcz40_6
    try clear hfz10_0
    try clear hfz10_1
    try clear hfz10_2
    try clear hfz10_3
    try clear hfz10_4
    try clear hfz10_5
    try clear hfz10_6
    try clear hfz12_0
    try clear hfz12_1
    try clear hfz12_2
    try clear hfz12_3
    try clear hfz12_4
    try clear hfz12_5
    try clear hfz12_6
    try clear hfz24_0
    try clear hfz24_1
    try clear hfz24_2
    try clear hfz24_3
    try clear hfz24_4
    try clear hfz24_5
    try clear hfz24_6
    try clear hfz32_0
    try clear hfz32_1
    try clear hfz32_2
    try clear hfz32_3
    try clear hfz32_4
    try clear hfz32_5
    try clear hfz32_6
    try clear hfz34_0
    try clear hfz34_1
    try clear hfz34_2
    try clear hfz34_3
    try clear hfz34_4
    try clear hfz34_5
    try clear hfz34_6
    try clear hfz38_0
    try clear hfz38_1
    try clear hfz38_2
    try clear hfz38_3
    try clear hfz38_4
    try clear hfz38_5
    try clear hfz38_6
    try clear hfz40_0
    try clear hfz40_1
    try clear hfz40_2
    try clear hfz40_3
    try clear hfz40_4
    try clear hfz40_5
    try clear hfz40_6
    obtain ⟨kq, x44_17, rfl, HA, HJ17, HO_1, HO_7, HO_677005, HO_677006, HO_706005, HO_706006, BK676, BK677, BK705, HB⟩ := hcut
    cases kq with
    | zero => exact absurd HA.out (by simp [selvedgelaw18_CylBack.j0])
    | succ kj17 =>
     have H := HA.out
     clear HA
     simp only [selvedgelaw18_CylBack.j0] at H
     by_cases c42 : x44_17 = true
     ·subst c42
      have H1 : (none) = some r := by rw [if_pos rfl] at H; exact H
      clear H
      have H := H1
      clear H1
      exact absurd H (by simp)
     ·replace c42 := Bool.eq_false_iff.mpr c42
      subst c42
      have H1 : (if a2_1 = 0 then (selvedgelaw18_CylBack.j1 kj17 l1) else ((some (([] : List Int) : List Int)).bind fun y707 => (if y707.length + t689.length < 140737488355328 then ((some (y707 ++ t689 : List Int)).bind fun y710 => (if 0 ≤ (Int.tmod a2_0 32) then (if (Int.tmod a2_0 32) < (y710.length : Int) then ((cyl_Decode.f (y710.set ((Int.tmod a2_0 32) : Int).toNat (Go.bits .xor .u8 (rd y710 (Int.tmod a2_0 32)) a2_1))).bind fun bt715 => (if bt715.2.2.2.2.2.2.2 = 0 then ((cyl_Same.f kj17 bt715.1 bt715.2.1 bt715.2.2.1 bt715.2.2.2.1 bt715.2.2.2.2.1 bt715.2.2.2.2.2.1 bt715.2.2.2.2.2.2.1 t678 t679 t680 t681 t682 t683 t686).bind fun t728 => (if t728 = true then (none) else (selvedgelaw18_CylBack.j1 kj17 l1))) else (selvedgelaw18_CylBack.j1 kj17 l1))) else (none)) else (none))) else (none)))) = some r := by rw [if_neg (show ¬ (false = true) by decide)] at H; exact H
      clear H
      have H := H1
      clear H1
      by_cases c43 : a2_1 = 0
      ·rw [if_pos c43] at H
       have c43b0 : (a2_1 == 0) = true := beq_iff_eq.mpr c43
       have c43b1 : (a2_1 != 0) = false := bne_eq_false_iff_eq.mpr c43
       clear c43
       have H' := Aside0.mk H
       clear H
       have hnb44 := NB677_676.out
       have hnc44 := NB676_677.out
       have hnb45 := NB677_705.out
       have hnc45 := NB705_677.out
       obtain ⟨hcz46_0, hcz46_1, hfz46_0, hfz46_1⟩ := cf2 BK677
       go_wp2
       go_meet
       case rel => exact ⟨_, (l1), H', ⟨by have := HJ17.out; first | omega | exact Nat.le_refl _⟩, ⟨Kd.V_mono (vk HO_1) (fun _ hk => ⟨hk.1, ⟨hk.2.2.1, ⟨hk.2.2.2.1, ⟨hk.2.2.2.2.2.2.1, hk.2.2.2.2.2.2.2.1⟩⟩⟩⟩)⟩, ⟨Kd.R_mono (rk HO_677005) (fun _ hk => ⟨hk.1, hk.2.1⟩)⟩, ⟨Kd.R_mono (rk HO_677006) (fun _ hk => ⟨hk.1, hk.2.1⟩)⟩, ⟨bk BK676⟩, ⟨bk BK677⟩, ⟨bs HB (by simp [ag, GE676.out, GE677.out, GE705.out])⟩⟩
      ·rw [if_neg c43] at H
       have c43b0 : (a2_1 == 0) = false := beq_eq_false_iff_ne.mpr c43
       have c43b1 : (a2_1 != 0) = true := bne_iff_ne.mpr c43
       obtain ⟨y707, hy707⟩ : ∃ y_ : List Int, y_ = (([] : List Int)) := ⟨_, rfl⟩
       replace H : (if y707.length + t689.length < 140737488355328 then ((some (y707 ++ t689 : List Int)).bind fun y710 => (if 0 ≤ (Int.tmod a2_0 32) then (if (Int.tmod a2_0 32) < (y710.length : Int) then ((cyl_Decode.f (y710.set ((Int.tmod a2_0 32) : Int).toNat (Go.bits .xor .u8 (rd y710 (Int.tmod a2_0 32)) a2_1))).bind fun bt715 => (if bt715.2.2.2.2.2.2.2 = 0 then ((cyl_Same.f kj17 bt715.1 bt715.2.1 bt715.2.2.1 bt715.2.2.2.1 bt715.2.2.2.2.1 bt715.2.2.2.2.2.1 bt715.2.2.2.2.2.2.1 t678 t679 t680 t681 t682 t683 t686).bind fun t728 => (if t728 = true then (none) else (selvedgelaw18_CylBack.j1 kj17 l1))) else (selvedgelaw18_CylBack.j1 kj17 l1))) else (none)) else (none))) else (none)) = some r := by first | (rw [hy707]; with_reducible exact H) | (have H2_ := (Option.bind_some _ _).symm.trans H; rw [hy707]; with_reducible exact H2_) | (have H2_ := (Option.bind_some _ _).symm.trans H; with_reducible exact H2_) | with_reducible exact H | (rw [hy707]; exact H) | exact H
       have Ny707 := Aside0.mk hy707
       clear hy707
       by_cases c47 : y707.length + t689.length < 140737488355328
       ·rw [if_pos c47] at H
        have LMc47 := Aside0.mk c47
        clear c47
        obtain ⟨y710, hy710⟩ : ∃ y_ : List Int, y_ = (y707 ++ t689) := ⟨_, rfl⟩
        replace H : (if 0 ≤ (Int.tmod a2_0 32) then (if (Int.tmod a2_0 32) < (y710.length : Int) then ((cyl_Decode.f (y710.set ((Int.tmod a2_0 32) : Int).toNat (Go.bits .xor .u8 (rd y710 (Int.tmod a2_0 32)) a2_1))).bind fun bt715 => (if bt715.2.2.2.2.2.2.2 = 0 then ((cyl_Same.f kj17 bt715.1 bt715.2.1 bt715.2.2.1 bt715.2.2.2.1 bt715.2.2.2.2.1 bt715.2.2.2.2.2.1 bt715.2.2.2.2.2.2.1 t678 t679 t680 t681 t682 t683 t686).bind fun t728 => (if t728 = true then (none) else (selvedgelaw18_CylBack.j1 kj17 l1))) else (selvedgelaw18_CylBack.j1 kj17 l1))) else (none)) else (none)) = some r := by first | (rw [hy710]; with_reducible exact H) | (have H2_ := (Option.bind_some _ _).symm.trans H; rw [hy710]; with_reducible exact H2_) | (have H2_ := (Option.bind_some _ _).symm.trans H; with_reducible exact H2_) | with_reducible exact H | (rw [hy710]; exact H) | exact H
        have Ny710 := Aside0.mk hy710
        clear hy710
        obtain ⟨ji48, hji48⟩ : ∃ j_ : Int, (Int.tmod a2_0 32) = j_ := ⟨_, rfl⟩
        replace H : (if 0 ≤ (ji48) then (if (ji48) < (y710.length : Int) then ((cyl_Decode.f (y710.set ((ji48) : Int).toNat (Go.bits .xor .u8 (rd y710 (ji48)) a2_1))).bind fun bt715 => (if bt715.2.2.2.2.2.2.2 = 0 then ((cyl_Same.f kj17 bt715.1 bt715.2.1 bt715.2.2.1 bt715.2.2.2.1 bt715.2.2.2.2.1 bt715.2.2.2.2.2.1 bt715.2.2.2.2.2.2.1 t678 t679 t680 t681 t682 t683 t686).bind fun t728 => (if t728 = true then (none) else (selvedgelaw18_CylBack.j1 kj17 l1))) else (selvedgelaw18_CylBack.j1 kj17 l1))) else (none)) else (none)) = some r := by first | (rw [hji48] at H; exact H) | (simp only [hji48] at H ⊢; exact H)
        by_cases c49 : 0 ≤ (ji48)
        ·rw [if_pos c49] at H
         have c49b0 : decide (0 ≤ (ji48)) = true := decide_eq_true c49
         clear c49
         by_cases c50 : (ji48) < (y710.length : Int)
         ·rw [if_pos c50] at H
          have c50b0 : decide ((ji48) < (y710.length : Int)) = true := decide_eq_true c50
          clear c50
          obtain ⟨y714, hy714⟩ : ∃ y_ : List Int, y_ = (y710.set ((ji48) : Int).toNat (Go.bits .xor .u8 (rd y710 (ji48)) a2_1)) := ⟨_, rfl⟩
          replace H : ((cyl_Decode.f y714).bind fun bt715 => (if bt715.2.2.2.2.2.2.2 = 0 then ((cyl_Same.f kj17 bt715.1 bt715.2.1 bt715.2.2.1 bt715.2.2.2.1 bt715.2.2.2.2.1 bt715.2.2.2.2.2.1 bt715.2.2.2.2.2.2.1 t678 t679 t680 t681 t682 t683 t686).bind fun t728 => (if t728 = true then (none) else (selvedgelaw18_CylBack.j1 kj17 l1))) else (selvedgelaw18_CylBack.j1 kj17 l1))) = some r := by first | (rw [hy714]; with_reducible exact H) | (have H2_ := (Option.bind_some _ _).symm.trans H; rw [hy714]; with_reducible exact H2_) | (have H2_ := (Option.bind_some _ _).symm.trans H; with_reducible exact H2_) | with_reducible exact H | (rw [hy714]; exact H) | exact H
          have Ny714 := Aside0.mk hy714
          clear hy714
          replace H := Option.bind_eq_some_iff.mp H
          obtain ⟨⟨t715, t716, t717, t718, t719, t720, t723, t726⟩, A520, H⟩ := H
          try dsimp -implicitDefEqProofs -simprocs only at H
          have A52 := Aside0.mk A520
          clear A520
          by_cases c53 : t726 = 0
          ·rw [if_pos c53] at H
           have c53b0 : (t726 == 0) = true := beq_iff_eq.mpr c53
           have c53b1 : (t726 != 0) = false := bne_eq_false_iff_eq.mpr c53
           clear c53
           replace H := Option.bind_eq_some_iff.mp H
           obtain ⟨t728, A540, H⟩ := H
           try dsimp -implicitDefEqProofs -simprocs only at H
           have A54 := Aside0.mk A540
           clear A540
           by_cases c55 : t728 = true
           ·subst c55
            have H1 : (none) = some r := by rw [if_pos rfl] at H; exact H
            clear H
            have H := H1
            clear H1
            exact absurd H (by simp)
           ·replace c55 := Bool.eq_false_iff.mpr c55
            subst c55
            have H1 : (selvedgelaw18_CylBack.j1 kj17 l1) = some r := by rw [if_neg (show ¬ (false = true) by decide)] at H; exact H
            clear H
            have H := H1
            clear H1
            have H' := Aside0.mk H
            clear H
            have hnb56 := NB677_676.out
            have hnc56 := NB676_677.out
            have hnb57 := NB677_705.out
            have hnc57 := NB705_677.out
            obtain ⟨hcz58_0, hcz58_1, hfz58_0, hfz58_1⟩ := cf2 BK677
            try go_wp2_with (first | ((with_reducible refine gate_dst (N := 48) rfl ?_); (try (refine gate_guard (by rfl) ?_; dsimp only)); refine Kd.R_lit (Kd.int .u8) _ 5 ?hg (N := 48) ?hd (xs := ([] : List Int)) (inner := []) (ok := fun _ => True) (okp := fun _ => True) ?hr ?hp (fun _ hk => hk) trivial (Below.refl _ _) (Nat.le_refl _) (by simp) ?_; (case hd => rfl); (case hg => rfl); (case hr => first | (go_simp; done) | (go_simp; rfl)); (case hp => exact (Reps.none _ _)); intro v708 w59 ho60 hb hg_ hnew_; clear hg_ hnew_; (first | rw [← Ny707.out] at ho60 | (simp only [Int.reduceToNat] at ho60; rw [← Ny707.out] at ho60)); replace HO_1 := Aside0.mk (Kd.V_elder' (vk HO_1) (Kd.R_base ho60) hb); replace HO_677005 := Aside0.mk (Kd.R_below (rk HO_677005) hb); replace HO_677006 := Aside0.mk (Kd.R_below (rk HO_677006) hb); replace HO_706005 := Aside0.mk (Kd.R_below (rk HO_706005) hb); replace HO_706006 := Aside0.mk (Kd.R_below (rk HO_706006) hb); have HO709 := Aside0.mk (Kd.R_lower (Kd.R_new' (Kd.R_newM (M := fun k_ => (w.heap.size ≤ k_)) ho60 (below_size (bs HB (by simp [ag, GE676.out, GE677.out, GE705.out]))) (fun k_ h_ => h_)) (Kd.R_lt (rk HO_7))) (below_size (bs HB (by simp [ag, GE676.out, GE677.out, GE705.out])))); replace HO_7 := Aside0.mk (Kd.R_elder' (rk HO_7) (Kd.R_base ho60) hb); replace BK676 := Aside0.mk (bb BK676 hb); replace BK677 := Aside0.mk (bb BK677 hb); replace BK705 := Aside0.mk (bb BK705 hb); replace HB := Aside0.mk (below_step (bs HB (by simp [ag, GE676.out, GE677.out, GE705.out])) hb); clear hb ho60) | ((with_reducible refine gate_builtin (b := .append) (xs := #[.tmp 48, .tmp 49]) rfl ?_); (try (refine gate_guard (by rfl) ?_; dsimp only)); at_builtin; refine Kd.R_append_rows (Kd.int .u8) (w0 := w) w.heap.size rfl (.tmp 48) (.tmp 49) 35 5 (.int .u8 0) 1 rfl Try.underlying35 info5 rfl (by decide) (by omega) v708 y707 t689 _ _ _ (fun k_ => (w.heap.size ≤ k_) ∧ some k_ ≠ (.slice Ao19 t689.length co19 : Value).ownBlock) (fun _ => False) rfl rfl ?aO ?aR (fun _ _ h => h) (fun _ h => h.elim) ?aF ?aB ?aS ?aL ?_; (case aR => repeat (first | exact (Kd.R_reads' HO_7.out).2.2 | (with_reducible refine Kd.C_alloc ?_ _) | (with_reducible refine Kd.C_drewN ?_ _) | (with_reducible refine Kd.C_drew ?_))); (case aB => exact (bs HB (by simp [ag, GE676.out, GE677.out, GE705.out]))); (case aF => exact (fun k_ hk => ⟨(Nat.le_trans (below_size (bs HB (by simp [ag, GE676.out, GE677.out, GE705.out]))) hk), Kd.fresh' (Kd.R_lt (rk HO_7)) k_ hk⟩)); (case aO => exact (Kd.R_mono (rk HO709) (fun _ hk => ⟨hk.1.1, hk.2⟩))); (case aS => exact (below_size (bs HB (by simp [ag, GE676.out, GE677.out, GE705.out])))); (case aL => have := LMc47.out; omega); intro v711 w61 ho hb hg hat; rw [← Ny710.out] at ho; replace HO_1 := Aside0.mk (Kd.V_afterv (ok := (fun k_ => (P1_ k_ ∨ w.heap.size ≤ k_) ∧ some k_ ≠ (.slice Ao19 t689.length co19 : Value).ownBlock ∧ some k_ ≠ (.slice Ao13 t683.length co13 : Value).ownBlock ∧ some k_ ≠ (.slice Ao14 t686.length co14 : Value).ownBlock ∧ some k_ ≠ (.slice Ao25 t698.length co25 : Value).ownBlock ∧ some k_ ≠ (.slice Ao26 t701.length co26 : Value).ownBlock ∧ k_ ≠ gb676 ∧ k_ ≠ gb677 ∧ k_ ≠ gb705)) (vk HO_1) hg hat); replace HO_7 := Aside0.mk (Kd.R_after (ok := (fun k_ => (w.heap.size ≤ k_))) (rk HO_7) hg hat); replace HO_677005 := Aside0.mk (Kd.R_over' (rk HO_677005) (Kd.R_typed (rk HO709)) (by decide) hg); replace HO_677006 := Aside0.mk (Kd.R_over' (rk HO_677006) (Kd.R_typed (rk HO709)) (by decide) hg); replace HO_706005 := Aside0.mk (Kd.R_over' (rk HO_706005) (Kd.R_typed (rk HO709)) (by decide) hg); replace HO_706006 := Aside0.mk (Kd.R_over' (rk HO_706006) (Kd.R_typed (rk HO709)) (by decide) hg); replace BK676 := Aside0.mk (blk_grown (g := gb676) (o := .cells #[.int .i64 t678, .int .i64 t679, .int .i64 t680, .int .i64 t681, .int .i64 t682, .slice Ao13 t683.length co13, .slice Ao14 t686.length co14] 42 (0, 0)) (bk BK676) hg (Kd.R_ne HO709.out BK676.out (by decide))); replace BK677 := Aside0.mk (blk_grown (g := gb677) (o := .cells #[.int .u8 a2_0, .int .u8 a2_1] 60 (0, 0)) (bk BK677) hg (Kd.R_ne HO709.out BK677.out (by decide))); replace BK705 := Aside0.mk (blk_grown (g := gb705) (o := .cells #[.int .i64 t693, .int .i64 t694, .int .i64 t695, .int .i64 t696, .int .i64 t697, .slice Ao25 t698.length co25, .slice Ao26 t701.length co26] 42 (0, 0)) (bk BK705) hg (Kd.R_ne HO709.out BK705.out (by decide))); replace HB := Aside0.mk (hb); have HO712 := Aside0.mk (ho); clear HO709; clear ho hb hg hat))
            have n0_ := Aside0.mk (Kd.V_drew HO_1.out)
            have n1_ := Aside0.mk (Kd.R_drew HO_7.out)
            have n2_ := Aside0.mk (Kd.R_drew HO_677005.out)
            have n3_ := Aside0.mk (Kd.R_drew HO_677006.out)
            have n4_ := Aside0.mk (Kd.R_drew HO_706005.out)
            have n5_ := Aside0.mk (Kd.R_drew HO_706006.out)
            have n6_ := Aside0.mk (Kd.R_drew HO712.out)
            have n7_ := Aside0.mk (blk_drew BK676.out)
            have n8_ := Aside0.mk (blk_drew BK677.out)
            have n9_ := Aside0.mk (blk_drew BK705.out)
            have n10_ := Aside0.mk (below_drew1 HB.out)
            clear HO_1
            clear HO_7
            clear HO_677005
            clear HO_677006
            clear HO_706005
            clear HO_706006
            clear HO712
            clear BK676
            clear BK677
            clear BK705
            clear HB
            have HO_1 := n0_
            have HO_7 := n1_
            have HO_677005 := n2_
            have HO_677006 := n3_
            have HO_706005 := n4_
            have HO_706006 := n5_
            have HO712 := n6_
            have BK676 := n7_
            have BK677 := n8_
            have BK705 := n9_
            have HB := n10_
            clear n0_ n1_ n2_ n3_ n4_ n5_ n6_ n7_ n8_ n9_ n10_
            obtain ⟨Ao63, co63, eo63⟩ := Kd.R_slice HO712.out
            (first | subst eo63 | (injection eo63 with f1_ f2_ f3_; have f4_ := f1_.symm; have f5_ := f3_.symm; clear f1_ f2_ f3_; subst f4_; subst f5_))
            have p713 : 0 ≤ ((ji48) : Int) := of_decide_eq_true (by assumption)
            have q713 : (ji48) < (y710.length : Int) := of_decide_eq_true (by assumption)
            obtain ⟨ad713, e713, hx713_0⟩ := Kd.at_int (Kd.R_reads' HO712.out).2.2 (ji48) p713 q713
            cases e713
            replace p713 := eq_true p713
            replace q713 := eq_true q713
            have p51 : 0 ≤ ((ji48) : Int) := of_decide_eq_true (by assumption)
            have q51 : ((ji48) : Int) < ((y710.length : Int) : Int) := of_decide_eq_true (by assumption)
            obtain ⟨go51, co51, eo51, gb51, gl51, cl51, HG51⟩ := Kd.R_form HO712.out (by omega)
            (first | cases eo51 | (injection eo51 with ea_ en_ ec_; (first | subst ea_ | (injection ea_ with ea_; subst ea_)); subst ec_; clear en_))
            have GB51 := Aside0.mk gb51
            have GG51 := Aside0.mk HG51
            clear gb51 gl51 HG51
            (first | simp only [add_plain] at hx713_0 | skip)
            obtain ⟨hx51_0, hf51_0⟩ := Kd.R_celln 0 HO712.out ((ji48) : Int) p51 q51
            replace p51 := eq_true p51
            replace q51 := eq_true q51
            have HP64 := Kd.R_putn HO712.out ((ji48) : Int) (Go.bits .xor .u8 (rd y710 (ji48)) a2_1)
            rw [← Ny714.out] at HP64
            have HQ64 := Aside0.mk HP64
            clear HP64
            refine start_ (n := 11) (S := fun w' => w'.cell? ⟨gb677, 0, none⟩ = some (.int .u8 a2_0) ∧ w'.cell? ⟨gb677, 1, none⟩ = some (.int .u8 a2_1) ∧ w'.cell? ⟨go51, ((ji48)).toNat, none⟩ = some (.int .u8 (rd y710 (ji48)))) (ds := [10]) #[false, false, false, false, false, false, false, false, false, false, false] (by kernel_rfl) rfl rfl ⟨(blk_cell BK677.out 0).trans rfl, (blk_cell BK677.out 1).trans rfl, hx713_0⟩ (fun hHeld => ?_); refine with_tabW selvedgelaw18_CylBack.tab9 selvedgelaw18_CylBack.bits9 (fun HT_ HW_ => ?_)
            generalize w61.drew = w62 at HO_1 HO_7 HO_677005 HO_677006 HO_706005 HO_706006 HO712 BK676 BK677 BK705 HB GG51 HQ64 hf51_0 hx51_0 hx713_0 hHeld ⊢
            refine pure_ (i := 0) (N := some 51) (v := ?_) (a' := ?_) #[true, false, false, false, false, false, false, false, false, false, false] rfl rfl (any_of HT_.out (by kernel_rfl)) (fun _ _ _ h => h) (Or.inl ⟨by rfl, ?_⟩) ?_ ?_
            rotate_left
            ·intro w'
             go_simp
             with_reducible rfl
            rotate_left
            ·simp only [Act.put, List.setIfInBounds_toArray, List.set_cons_zero, List.set_cons_succ, i64_w, i32_w]
             rfl
            refine pure_ (i := 1) (N := some 52) (v := ?_) (a' := ?_) #[true, true, false, false, false, false, false, false, false, false, false] rfl rfl (any_of HT_.out (by kernel_rfl)) (fun _ _ _ h => h) (Or.inl ⟨by rfl, ?_⟩) ?_ ?_
            rotate_left
            ·intro w'
             go_simp
             with_reducible rfl
            rotate_left
            ·simp only [Act.put, List.setIfInBounds_toArray, List.set_cons_zero, List.set_cons_succ, i64_w, i32_w]
             rfl
            refine pure_ (i := 6) (N := some 57) (v := ?_) (a' := ?_) #[true, true, false, false, false, false, true, false, false, false, false] rfl rfl (any_of HT_.out (by kernel_rfl)) (fun _ _ _ h => h) (Or.inl ⟨by rfl, ?_⟩) ?_ ?_
            rotate_left
            ·intro w'
             go_simp
             with_reducible rfl
            rotate_left
            ·simp only [Act.put, List.setIfInBounds_toArray, List.set_cons_zero, List.set_cons_succ, i64_w, i32_w]
             rfl
            refine take_ (i := 2) (N := some 53) (v := ?_) (a' := ?_) #[true, true, true, false, false, false, true, false, false, false, false] rfl rfl (take_ofW HT_.out HW_.out (by kernel_rfl)) (fun _ _ _ h => h) (Or.inl ⟨by rfl, ?_⟩) hHeld ?_ ?_
            rotate_left
            ·rintro w' ⟨s0, s1, s2⟩
             go_simp
             with_reducible rfl
            rotate_left
            ·simp only [Act.put, List.setIfInBounds_toArray, List.set_cons_zero, List.set_cons_succ, i64_w, i32_w]
             rfl
            refine pure_ (i := 3) (N := some 54) (v := ?_) (a' := ?_) #[true, true, true, true, false, false, true, false, false, false, false] rfl rfl (any_of HT_.out (by kernel_rfl)) (fun _ _ _ h => h) (Or.inl ⟨by rfl, ?_⟩) ?_ ?_
            rotate_left
            ·intro w'
             go_simp
             with_reducible rfl
            rotate_left
            ·simp only [Act.put, List.setIfInBounds_toArray, List.set_cons_zero, List.set_cons_succ, i64_w, i32_w]
             rfl
            refine pure_ (i := 4) (N := some 55) (v := ?_) (a' := ?_) #[true, true, true, true, true, false, true, false, false, false, false] rfl rfl (any_of HT_.out (by kernel_rfl)) (fun _ _ _ h => h) (Or.inl ⟨by rfl, ?_⟩) ?_ ?_
            rotate_left
            ·intro w'
             go_simp
             with_reducible rfl
            rotate_left
            ·simp only [Act.put, List.setIfInBounds_toArray, List.set_cons_zero, List.set_cons_succ, i64_w, i32_w]
             rfl
            refine take_ (i := 5) (N := some 56) (v := ?_) (a' := ?_) #[true, true, true, true, true, true, true, false, false, false, false] rfl rfl (take_ofW HT_.out HW_.out (by kernel_rfl)) (fun _ _ _ h => h) (Or.inl ⟨by rfl, ?_⟩) hHeld ?_ ?_
            rotate_left
            ·rintro w' ⟨s0, s1, s2⟩
             go_simp
             with_reducible rfl
            rotate_left
            ·simp only [Act.put, List.setIfInBounds_toArray, List.set_cons_zero, List.set_cons_succ, i64_w, i32_w]
             rfl
            refine take_ (i := 7) (N := some 58) (v := ?_) (a' := ?_) #[true, true, true, true, true, true, true, true, false, false, false] rfl rfl (take_ofW HT_.out HW_.out (by kernel_rfl)) (fun _ _ _ h => h) (Or.inl ⟨by rfl, ?_⟩) hHeld ?_ ?_
            rotate_left
            ·rintro w' ⟨s0, s1, s2⟩
             go_simp
             with_reducible rfl
            rotate_left
            ·simp only [Act.put, List.setIfInBounds_toArray, List.set_cons_zero, List.set_cons_succ, i64_w, i32_w]
             rfl
            refine pure_ (i := 8) (N := some 59) (v := ?_) (a' := ?_) #[true, true, true, true, true, true, true, true, true, false, false] rfl rfl (any_of HT_.out (by kernel_rfl)) (fun _ _ _ h => h) (Or.inl ⟨by rfl, ?_⟩) ?_ ?_
            rotate_left
            ·intro w'
             go_simp
             with_reducible rfl
            rotate_left
            ·simp only [Act.put, List.setIfInBounds_toArray, List.set_cons_zero, List.set_cons_succ, i64_w, i32_w]
             rfl
            refine pure_ (i := 9) (N := some 60) (v := ?_) (a' := ?_) #[true, true, true, true, true, true, true, true, true, true, false] rfl rfl (any_of HT_.out (by kernel_rfl)) (fun _ _ _ h => h) (Or.inl ⟨by rfl, ?_⟩) ?_ ?_
            rotate_left
            ·intro w'
             go_simp
             with_reducible rfl
            rotate_left
            ·simp only [Act.put, List.setIfInBounds_toArray, List.set_cons_zero, List.set_cons_succ, i64_w, i32_w]
             rfl
            refine last_ (i := 10) (N := none) #[true, true, true, true, true, true, true, true, true, true, true] rfl rfl (one_of HT_.out (by kernel_rfl)) (by decide) (fun K hK => ?_)
            refine skip_ (w1 := ?_) (by rfl) rfl ?_ ?_
            rotate_left
            ·go_simp
             rfl
            refine hK.out _ _ ?_
            clear hK K
            refine done_ (done_of HT_.out (by kernel_rfl)) ?_
            have n0_ : Aside0 (Kd.V (Kd.int .u8) 5 (w62.setCell ⟨go51, ((ji48) : Int).toNat, none⟩ (.int .u8 (Go.bits .xor .u8 (rd y710 (ji48)) a2_1))) w.heap.size (fun k_ => (P1_ k_ ∨ w.heap.size ≤ k_) ∧ some k_ ≠ (.slice Ao19 t689.length co19 : Value).ownBlock ∧ some k_ ≠ (.slice Ao13 t683.length co13 : Value).ownBlock ∧ some k_ ≠ (.slice Ao14 t686.length co14 : Value).ownBlock ∧ some k_ ≠ (.slice Ao25 t698.length co25 : Value).ownBlock ∧ some k_ ≠ (.slice Ao26 t701.length co26 : Value).ownBlock ∧ some k_ ≠ (.slice (some ⟨go51, 0, none⟩) y710.length co63 : Value).ownBlock ∧ k_ ≠ gb676 ∧ k_ ≠ gb677 ∧ k_ ≠ gb705) (.slice A1 l1.length c1) l1) := ⟨by (with_reducible repeat (first | apply Kd.V_alloc | apply Kd.V_drewN | apply Kd.V_drew)); exact Kd.V_mono (Kd.V_far (p := ⟨go51, ((ji48) : Int).toNat, none⟩) (Kd.V_mono HO_1.out (fun k_ hk => (⟨hk, fun e_ => hk.2 (by rw [e_]; rfl)⟩ : _ ∧ k_ ≠ go51))) (fun _ hk => hk.2) (.int .u8 (Go.bits .xor .u8 (rd y710 (ji48)) a2_1))) (fun _ hk => ⟨hk.1.1.1, ⟨hk.1.1.2.1, ⟨hk.1.1.2.2.1, ⟨hk.1.1.2.2.2.1, ⟨hk.1.1.2.2.2.2.1, ⟨hk.1.1.2.2.2.2.2.1, ⟨hk.1.2, ⟨hk.1.1.2.2.2.2.2.2.1, ⟨hk.1.1.2.2.2.2.2.2.2.1, hk.1.1.2.2.2.2.2.2.2.2⟩⟩⟩⟩⟩⟩⟩⟩⟩)⟩
            have n1_ : Aside0 (Kd.R (Kd.int .u8) 84 (w62.setCell ⟨go51, ((ji48) : Int).toNat, none⟩ (.int .u8 (Go.bits .xor .u8 (rd y710 (ji48)) a2_1))) w.heap.size (fun k_ => (w.heap.size ≤ k_) ∧ some k_ ≠ (.slice (some ⟨go51, 0, none⟩) y710.length co63 : Value).ownBlock) (.slice Ao19 t689.length co19) t689) := ⟨by (with_reducible repeat (first | apply Kd.R_alloc | apply Kd.R_drewN | apply Kd.R_drew)); exact Kd.R_mono (Kd.R_far (p := ⟨go51, ((ji48) : Int).toNat, none⟩) (Kd.R_mono HO_7.out (fun k_ hk => (⟨hk, fun e_ => hk.2 (by rw [e_]; rfl)⟩ : _ ∧ k_ ≠ go51))) (fun _ hk => hk.2) (.int .u8 (Go.bits .xor .u8 (rd y710 (ji48)) a2_1))) (fun _ hk => ⟨hk.1.1, hk.1.2⟩)⟩
            have n2_ : Aside0 (Kd.R (Kd.int .i64) 3 (w62.setCell ⟨go51, ((ji48) : Int).toNat, none⟩ (.int .u8 (Go.bits .xor .u8 (rd y710 (ji48)) a2_1))) w.heap.size (fun k_ => (w.heap.size ≤ k_) ∧ some k_ ≠ (.slice Ao14 t686.length co14 : Value).ownBlock ∧ some k_ ≠ (.slice Ao25 t698.length co25 : Value).ownBlock ∧ some k_ ≠ (.slice Ao26 t701.length co26 : Value).ownBlock) (.slice Ao13 t683.length co13) t683) := ⟨by (with_reducible repeat (first | apply Kd.R_alloc | apply Kd.R_drewN | apply Kd.R_drew)); exact Kd.R_mono (Kd.R_far (p := ⟨go51, ((ji48) : Int).toNat, none⟩) (Kd.R_types HO_677005.out GG51.out (by decide)) (fun _ hk => hk.2) (.int .u8 (Go.bits .xor .u8 (rd y710 (ji48)) a2_1))) (fun _ hk => ⟨hk.1.1, ⟨hk.1.2.1, ⟨hk.1.2.2.1, hk.1.2.2.2⟩⟩⟩)⟩
            have n3_ : Aside0 (Kd.R (Kd.int .i64) 3 (w62.setCell ⟨go51, ((ji48) : Int).toNat, none⟩ (.int .u8 (Go.bits .xor .u8 (rd y710 (ji48)) a2_1))) w.heap.size (fun k_ => (w.heap.size ≤ k_) ∧ some k_ ≠ (.slice Ao13 t683.length co13 : Value).ownBlock ∧ some k_ ≠ (.slice Ao25 t698.length co25 : Value).ownBlock ∧ some k_ ≠ (.slice Ao26 t701.length co26 : Value).ownBlock) (.slice Ao14 t686.length co14) t686) := ⟨by (with_reducible repeat (first | apply Kd.R_alloc | apply Kd.R_drewN | apply Kd.R_drew)); exact Kd.R_mono (Kd.R_far (p := ⟨go51, ((ji48) : Int).toNat, none⟩) (Kd.R_types HO_677006.out GG51.out (by decide)) (fun _ hk => hk.2) (.int .u8 (Go.bits .xor .u8 (rd y710 (ji48)) a2_1))) (fun _ hk => ⟨hk.1.1, ⟨hk.1.2.1, ⟨hk.1.2.2.1, hk.1.2.2.2⟩⟩⟩)⟩
            have n4_ : Aside0 (Kd.R (Kd.int .i64) 3 (w62.setCell ⟨go51, ((ji48) : Int).toNat, none⟩ (.int .u8 (Go.bits .xor .u8 (rd y710 (ji48)) a2_1))) w.heap.size (fun k_ => (w.heap.size ≤ k_) ∧ some k_ ≠ (.slice Ao13 t683.length co13 : Value).ownBlock ∧ some k_ ≠ (.slice Ao14 t686.length co14 : Value).ownBlock ∧ some k_ ≠ (.slice Ao26 t701.length co26 : Value).ownBlock) (.slice Ao25 t698.length co25) t698) := ⟨by (with_reducible repeat (first | apply Kd.R_alloc | apply Kd.R_drewN | apply Kd.R_drew)); exact Kd.R_mono (Kd.R_far (p := ⟨go51, ((ji48) : Int).toNat, none⟩) (Kd.R_types HO_706005.out GG51.out (by decide)) (fun _ hk => hk.2) (.int .u8 (Go.bits .xor .u8 (rd y710 (ji48)) a2_1))) (fun _ hk => ⟨hk.1.1, ⟨hk.1.2.1, ⟨hk.1.2.2.1, hk.1.2.2.2⟩⟩⟩)⟩
            have n5_ : Aside0 (Kd.R (Kd.int .i64) 3 (w62.setCell ⟨go51, ((ji48) : Int).toNat, none⟩ (.int .u8 (Go.bits .xor .u8 (rd y710 (ji48)) a2_1))) w.heap.size (fun k_ => (w.heap.size ≤ k_) ∧ some k_ ≠ (.slice Ao13 t683.length co13 : Value).ownBlock ∧ some k_ ≠ (.slice Ao14 t686.length co14 : Value).ownBlock ∧ some k_ ≠ (.slice Ao25 t698.length co25 : Value).ownBlock) (.slice Ao26 t701.length co26) t701) := ⟨by (with_reducible repeat (first | apply Kd.R_alloc | apply Kd.R_drewN | apply Kd.R_drew)); exact Kd.R_mono (Kd.R_far (p := ⟨go51, ((ji48) : Int).toNat, none⟩) (Kd.R_types HO_706006.out GG51.out (by decide)) (fun _ hk => hk.2) (.int .u8 (Go.bits .xor .u8 (rd y710 (ji48)) a2_1))) (fun _ hk => ⟨hk.1.1, ⟨hk.1.2.1, ⟨hk.1.2.2.1, hk.1.2.2.2⟩⟩⟩)⟩
            have n6_ : Aside0 (Kd.R (Kd.int .u8) 5 (w62.setCell ⟨go51, ((ji48) : Int).toNat, none⟩ (.int .u8 (Go.bits .xor .u8 (rd y710 (ji48)) a2_1))) w.heap.size (fun k_ => (w.heap.size ≤ k_) ∧ some k_ ≠ (.slice Ao19 t689.length co19 : Value).ownBlock) (.slice (some ⟨go51, 0, none⟩) y710.length co63) y714) := ⟨by (with_reducible repeat (first | apply Kd.R_alloc | apply Kd.R_drewN | apply Kd.R_drew)); exact HQ64.out⟩
            have n7_ : Aside0 ((w62.setCell ⟨go51, ((ji48) : Int).toNat, none⟩ (.int .u8 (Go.bits .xor .u8 (rd y710 (ji48)) a2_1))).heap[gb676]? = some (.cells #[.int .i64 t678, .int .i64 t679, .int .i64 t680, .int .i64 t681, .int .i64 t682, .slice Ao13 t683.length co13, .slice Ao14 t686.length co14] 42 (0, 0))) := ⟨by (with_reducible repeat (first | refine blk_drewN ?_ _ | refine blk_drew ?_ | refine blk_alloc ?_ _)); refine blk_far ?_ (by have h_ := Kd.R_ne HO712.out BK676.out (by decide); intro e_; exact h_ (by rw [e_]; rfl)) _; (with_reducible repeat (first | refine blk_drewN ?_ _ | refine blk_drew ?_ | refine blk_alloc ?_ _)); exact BK676.out⟩
            have n8_ : Aside0 ((w62.setCell ⟨go51, ((ji48) : Int).toNat, none⟩ (.int .u8 (Go.bits .xor .u8 (rd y710 (ji48)) a2_1))).heap[gb677]? = some (.cells #[.int .u8 a2_0, .int .u8 a2_1] 60 (0, 0))) := ⟨by (with_reducible repeat (first | refine blk_drewN ?_ _ | refine blk_drew ?_ | refine blk_alloc ?_ _)); refine blk_far ?_ (by have h_ := Kd.R_ne HO712.out BK677.out (by decide); intro e_; exact h_ (by rw [e_]; rfl)) _; (with_reducible repeat (first | refine blk_drewN ?_ _ | refine blk_drew ?_ | refine blk_alloc ?_ _)); exact BK677.out⟩
            have n9_ : Aside0 ((w62.setCell ⟨go51, ((ji48) : Int).toNat, none⟩ (.int .u8 (Go.bits .xor .u8 (rd y710 (ji48)) a2_1))).heap[gb705]? = some (.cells #[.int .i64 t693, .int .i64 t694, .int .i64 t695, .int .i64 t696, .int .i64 t697, .slice Ao25 t698.length co25, .slice Ao26 t701.length co26] 42 (0, 0))) := ⟨by (with_reducible repeat (first | refine blk_drewN ?_ _ | refine blk_drew ?_ | refine blk_alloc ?_ _)); refine blk_far ?_ (by have h_ := Kd.R_ne HO712.out BK705.out (by decide); intro e_; exact h_ (by rw [e_]; rfl)) _; (with_reducible repeat (first | refine blk_drewN ?_ _ | refine blk_drew ?_ | refine blk_alloc ?_ _)); exact BK705.out⟩
            have n10_ : Aside0 (Below w.heap.size w (w62.setCell ⟨go51, ((ji48) : Int).toNat, none⟩ (.int .u8 (Go.bits .xor .u8 (rd y710 (ji48)) a2_1)))) := ⟨bs HB (by simp [ag, GB51.out, GE676.out, GE677.out, GE705.out])⟩
            (try clear HO_1)
            (try clear HO_7)
            (try clear HO_677005)
            (try clear HO_677006)
            (try clear HO_706005)
            (try clear HO_706006)
            (try clear HO712)
            (try clear BK676)
            (try clear BK677)
            (try clear BK705)
            (try clear HB)
            generalize (w62.setCell ⟨go51, ((ji48) : Int).toNat, none⟩ (.int .u8 (Go.bits .xor .u8 (rd y710 (ji48)) a2_1))) = w65 at n0_ n1_ n2_ n3_ n4_ n5_ n6_ n7_ n8_ n9_ n10_ ⊢
            have HO_1 := n0_
            have HO_7 := n1_
            have HO_677005 := n2_
            have HO_677006 := n3_
            have HO_706005 := n4_
            have HO_706006 := n5_
            have HO712 := n6_
            have BK676 := n7_
            have BK677 := n8_
            have BK705 := n9_
            have HB := n10_
            clear n0_ n1_ n2_ n3_ n4_ n5_ n6_ n7_ n8_ n9_ n10_
            try go_wp2_with (first | ((with_reducible refine gate_callee (f := 32) rfl ?_); refine goesL_ (some 63) rfl rfl Try.func32 (by kernel_rfl) rfl #[.slice (some ⟨go51, 0, none⟩) y714.length co63] rfl (by (try simp only [List.map_toArray, List.map_cons, List.map_nil]); first | done | (rw [show y714.length = y710.length from (Kd.R_reads' HO712.out).1.symm] <;> rfl) | rfl | (simp only [List.length_drop, List.length_take]; rfl)) ?_; (with_reducible refine (cyl_Decode.calls _ _ y714 t715 t716 t717 t718 t719 t720 t723 t726 _ ?side1 ?side2 A52.out).mono ?_); (case side1 => repeat (first | exact (Kd.R_reads' HO712.out).2.2 | (with_reducible refine Kd.C_alloc ?_ _) | (with_reducible refine Kd.C_drewN ?_ _) | (with_reducible refine Kd.C_drew ?_))); (case side2 => rw [show y714.length = y710.length from (Kd.R_reads' HO712.out).1.symm]; exact (Kd.R_reads' HO712.out).2.1); rintro e w66 ⟨v721, v724, rfl, ho0, ho1, hb⟩; refine ⟨_, rfl, ?_⟩; have hone_v721 := Kd.R_one ho0; have hone_v724 := Kd.R_one ho1; replace HO_1 := Aside0.mk (Kd.V_mono (Kd.V_told (Kd.V_told (Kd.V_old (vk HO_1) hb) (Kd.R_base ho0)) (Kd.R_base ho1)) (fun _ h_ => h_.1)); replace HO_7 := Aside0.mk (Kd.R_below (rk HO_7) hb); replace HO712 := Aside0.mk (Kd.R_below (rk HO712) hb); have HO722 := Aside0.mk (Kd.R_lower (Kd.R_new' (Kd.R_new' (Kd.R_new' (Kd.R_new' (Kd.R_newM (M := fun k_ => (w.heap.size ≤ k_)) ho0 (below_size (bs HB (by simp [ag, GE676.out, GE677.out, GE705.out]))) (fun k_ h_ => h_)) (Kd.R_lt (rk HO_677005))) (Kd.R_lt (rk HO_677006))) (Kd.R_lt (rk HO_706005))) (Kd.R_lt (rk HO_706006))) (below_size (bs HB (by simp [ag, GE676.out, GE677.out, GE705.out])))); have HO725 := Aside0.mk (Kd.R_lower (Kd.R_new' (Kd.R_new' (Kd.R_new' (Kd.R_new' (Kd.R_newM (M := fun k_ => (w.heap.size ≤ k_)) ho1 (below_size (bs HB (by simp [ag, GE676.out, GE677.out, GE705.out]))) (fun k_ h_ => h_)) (Kd.R_lt (rk HO_677005))) (Kd.R_lt (rk HO_677006))) (Kd.R_lt (rk HO_706005))) (Kd.R_lt (rk HO_706006))) (below_size (bs HB (by simp [ag, GE676.out, GE677.out, GE705.out])))); replace HO_677005 := Aside0.mk (Kd.R_mono (Kd.R_told (Kd.R_told (Kd.R_old (rk HO_677005) hb) (Kd.R_base ho0)) (Kd.R_base ho1)) (fun _ h_ => h_.1)); replace HO_677006 := Aside0.mk (Kd.R_mono (Kd.R_told (Kd.R_told (Kd.R_old (rk HO_677006) hb) (Kd.R_base ho0)) (Kd.R_base ho1)) (fun _ h_ => h_.1)); replace HO_706005 := Aside0.mk (Kd.R_mono (Kd.R_told (Kd.R_told (Kd.R_old (rk HO_706005) hb) (Kd.R_base ho0)) (Kd.R_base ho1)) (fun _ h_ => h_.1)); replace HO_706006 := Aside0.mk (Kd.R_mono (Kd.R_told (Kd.R_told (Kd.R_old (rk HO_706006) hb) (Kd.R_base ho0)) (Kd.R_base ho1)) (fun _ h_ => h_.1)); replace BK676 := Aside0.mk (bb BK676 hb); replace BK677 := Aside0.mk (bb BK677 hb); replace BK705 := Aside0.mk (bb BK705 hb); replace HB := Aside0.mk (below_step (bs HB (by simp [ag, GE676.out, GE677.out, GE705.out])) hb); clear ho0 hb; (try clear ho1)) | ((with_reducible refine gate_dst (N := 12) rfl ?_); (try (refine gate_guard (by rfl) ?_; dsimp only)); refine box_event rfl (N := 12) rfl (cs := #[.int .i64 0, .int .i64 0, .int .i64 0, .int .i64 0, .int .i64 0, .slice none 0 0, .slice none 0 0]) (t := 42) (by first | (go_simp; done) | (go_simp; rfl)) ?_; intro gb727 hg w67 hbox hb; replace HO_1 := Aside0.mk (Kd.V_below (Kd.V_elderB (vk HO_1) gb727 (Nat.le_of_eq hg.symm)) hb); replace HO_7 := Aside0.mk (Kd.R_below (rk HO_7) hb); replace HO_677005 := Aside0.mk (Kd.R_below (rk HO_677005) hb); replace HO_677006 := Aside0.mk (Kd.R_below (rk HO_677006) hb); replace HO_706005 := Aside0.mk (Kd.R_below (rk HO_706005) hb); replace HO_706006 := Aside0.mk (Kd.R_below (rk HO_706006) hb); replace HO712 := Aside0.mk (Kd.R_below (rk HO712) hb); replace HO722 := Aside0.mk (Kd.R_below (rk HO722) hb); replace HO725 := Aside0.mk (Kd.R_below (rk HO725) hb); have BK727 := Aside0.mk (hbox); have GW727 := gl HB hg (by simp [ag, GE676.out, GE677.out, GE705.out]); have GE727 := gl HB hg (by simp [ag, GE676.out, GE677.out, GE705.out]); replace HB := Aside0.mk (below_step (bs HB (by simp [ag, GE676.out, GE677.out, GE705.out])) hb); have NB676_727 := nl BK676 hg; have NB727_676 := nt BK676 hg; replace BK676 := Aside0.mk (bb BK676 hb); have NB677_727 := nl BK677 hg; have NB727_677 := nt BK677 hg; replace BK677 := Aside0.mk (bb BK677 hb); have NB705_727 := nl BK705 hg; have NB727_705 := nt BK705 hg; replace BK705 := Aside0.mk (bb BK705 hb); clear hb hbox hg; have hnb68 := NB727_676.out; have hnc68 := NB676_727.out; have hnb69 := NB727_677.out; have hnc69 := NB677_727.out; have hnb70 := NB727_705.out; have hnc70 := NB705_727.out; obtain ⟨hcz71_0, hcz71_1, hcz71_2, hcz71_3, hcz71_4, hcz71_5, hcz71_6, hfz71_0, hfz71_1, hfz71_2, hfz71_3, hfz71_4, hfz71_5, hfz71_6⟩ := cf7 BK727; obtain ⟨Ao72, co72, eo72⟩ := Kd.R_slice HO722.out; subst eo72; obtain ⟨Ao73, co73, eo73⟩ := Kd.R_slice HO725.out; subst eo73; have hnb74 := NB676_705.out; have hnc74 := NB705_676.out; obtain ⟨hcz75_0, hcz75_1, hcz75_2, hcz75_3, hcz75_4, hcz75_5, hcz75_6, hfz75_0, hfz75_1, hfz75_2, hfz75_3, hfz75_4, hfz75_5, hfz75_6⟩ := cf7 BK676) | (go_at_call 28; (with_reducible refine (cyl_Same.calls kj17 t715 t716 t717 t718 t719 _ _ t720 _ _ t723 t678 t679 t680 t681 t682 _ _ t683 _ _ t686 false _ ?side1 ?side2 ?side3 ?side4 ?side5 ?side6 ?side7 ?side8 A54.out).mono ?_); (case side1 => refine (Kd.R_reads' (e := 3) (base := w.heap.size) (ok := fun k_ => ((((((w.heap.size ≤ k_) ∧ some k_ ≠ (.slice Ao73 t723.length co73 : Value).ownBlock) ∧ some k_ ≠ (.slice Ao13 t683.length co13 : Value).ownBlock) ∧ some k_ ≠ (.slice Ao14 t686.length co14 : Value).ownBlock) ∧ some k_ ≠ (.slice Ao25 t698.length co25 : Value).ownBlock) ∧ some k_ ≠ (.slice Ao26 t701.length co26 : Value).ownBlock)) (n := t720.length) (c := co72) ?_).2.2; exact (by (with_reducible repeat (first | apply Kd.R_alloc | apply Kd.R_drewN | apply Kd.R_drew)); exact (Kd.R_mono (Kd.R_far (p := ⟨gb727, 6, none⟩) (Kd.R_far (p := ⟨gb727, 5, none⟩) (Kd.R_far (p := ⟨gb727, 4, none⟩) (Kd.R_far (p := ⟨gb727, 3, none⟩) (Kd.R_far (p := ⟨gb727, 2, none⟩) (Kd.R_far (p := ⟨gb727, 1, none⟩) (Kd.R_far (p := ⟨gb727, 0, none⟩) (Kd.R_types HO722.out BK727.out (by decide)) (fun _ hk => hk.2) (.int .i64 t715)) (fun _ hk => hk.2) (.int .i64 t716)) (fun _ hk => hk.2) (.int .i64 t717)) (fun _ hk => hk.2) (.int .i64 t718)) (fun _ hk => hk.2) (.int .i64 t719)) (fun _ hk => hk.2) (.slice Ao72 t720.length co72)) (fun _ hk => hk.2) (.slice Ao73 t723.length co73)) (fun _ h_ => h_.1)))); (case side2 => exact (Kd.R_reads' HO722.out).2.1); (case side3 => refine (Kd.R_reads' (e := 3) (base := w.heap.size) (ok := fun k_ => ((((((w.heap.size ≤ k_) ∧ some k_ ≠ (.slice Ao72 t720.length co72 : Value).ownBlock) ∧ some k_ ≠ (.slice Ao13 t683.length co13 : Value).ownBlock) ∧ some k_ ≠ (.slice Ao14 t686.length co14 : Value).ownBlock) ∧ some k_ ≠ (.slice Ao25 t698.length co25 : Value).ownBlock) ∧ some k_ ≠ (.slice Ao26 t701.length co26 : Value).ownBlock)) (n := t723.length) (c := co73) ?_).2.2; exact (by (with_reducible repeat (first | apply Kd.R_alloc | apply Kd.R_drewN | apply Kd.R_drew)); exact (Kd.R_mono (Kd.R_far (p := ⟨gb727, 6, none⟩) (Kd.R_far (p := ⟨gb727, 5, none⟩) (Kd.R_far (p := ⟨gb727, 4, none⟩) (Kd.R_far (p := ⟨gb727, 3, none⟩) (Kd.R_far (p := ⟨gb727, 2, none⟩) (Kd.R_far (p := ⟨gb727, 1, none⟩) (Kd.R_far (p := ⟨gb727, 0, none⟩) (Kd.R_types HO725.out BK727.out (by decide)) (fun _ hk => hk.2) (.int .i64 t715)) (fun _ hk => hk.2) (.int .i64 t716)) (fun _ hk => hk.2) (.int .i64 t717)) (fun _ hk => hk.2) (.int .i64 t718)) (fun _ hk => hk.2) (.int .i64 t719)) (fun _ hk => hk.2) (.slice Ao72 t720.length co72)) (fun _ hk => hk.2) (.slice Ao73 t723.length co73)) (fun _ h_ => h_.1)))); (case side4 => exact (Kd.R_reads' HO725.out).2.1); (case side5 => refine (Kd.R_reads' (e := 3) (base := w.heap.size) (ok := fun k_ => ((((w.heap.size ≤ k_) ∧ (some k_ ≠ (.slice Ao14 t686.length co14 : Value).ownBlock ∧ (some k_ ≠ (.slice Ao25 t698.length co25 : Value).ownBlock ∧ some k_ ≠ (.slice Ao26 t701.length co26 : Value).ownBlock))) ∧ some k_ ≠ (.slice Ao72 t720.length co72 : Value).ownBlock) ∧ some k_ ≠ (.slice Ao73 t723.length co73 : Value).ownBlock)) (n := t683.length) (c := co13) ?_).2.2; exact (by (with_reducible repeat (first | apply Kd.R_alloc | apply Kd.R_drewN | apply Kd.R_drew)); exact (Kd.R_mono (Kd.R_far (p := ⟨gb727, 6, none⟩) (Kd.R_far (p := ⟨gb727, 5, none⟩) (Kd.R_far (p := ⟨gb727, 4, none⟩) (Kd.R_far (p := ⟨gb727, 3, none⟩) (Kd.R_far (p := ⟨gb727, 2, none⟩) (Kd.R_far (p := ⟨gb727, 1, none⟩) (Kd.R_far (p := ⟨gb727, 0, none⟩) (Kd.R_types HO_677005.out BK727.out (by decide)) (fun _ hk => hk.2) (.int .i64 t715)) (fun _ hk => hk.2) (.int .i64 t716)) (fun _ hk => hk.2) (.int .i64 t717)) (fun _ hk => hk.2) (.int .i64 t718)) (fun _ hk => hk.2) (.int .i64 t719)) (fun _ hk => hk.2) (.slice Ao72 t720.length co72)) (fun _ hk => hk.2) (.slice Ao73 t723.length co73)) (fun _ h_ => h_.1)))); (case side6 => exact (Kd.R_reads' HO_677005.out).2.1); (case side7 => refine (Kd.R_reads' (e := 3) (base := w.heap.size) (ok := fun k_ => ((((w.heap.size ≤ k_) ∧ (some k_ ≠ (.slice Ao13 t683.length co13 : Value).ownBlock ∧ (some k_ ≠ (.slice Ao25 t698.length co25 : Value).ownBlock ∧ some k_ ≠ (.slice Ao26 t701.length co26 : Value).ownBlock))) ∧ some k_ ≠ (.slice Ao72 t720.length co72 : Value).ownBlock) ∧ some k_ ≠ (.slice Ao73 t723.length co73 : Value).ownBlock)) (n := t686.length) (c := co14) ?_).2.2; exact (by (with_reducible repeat (first | apply Kd.R_alloc | apply Kd.R_drewN | apply Kd.R_drew)); exact (Kd.R_mono (Kd.R_far (p := ⟨gb727, 6, none⟩) (Kd.R_far (p := ⟨gb727, 5, none⟩) (Kd.R_far (p := ⟨gb727, 4, none⟩) (Kd.R_far (p := ⟨gb727, 3, none⟩) (Kd.R_far (p := ⟨gb727, 2, none⟩) (Kd.R_far (p := ⟨gb727, 1, none⟩) (Kd.R_far (p := ⟨gb727, 0, none⟩) (Kd.R_types HO_677006.out BK727.out (by decide)) (fun _ hk => hk.2) (.int .i64 t715)) (fun _ hk => hk.2) (.int .i64 t716)) (fun _ hk => hk.2) (.int .i64 t717)) (fun _ hk => hk.2) (.int .i64 t718)) (fun _ hk => hk.2) (.int .i64 t719)) (fun _ hk => hk.2) (.slice Ao72 t720.length co72)) (fun _ hk => hk.2) (.slice Ao73 t723.length co73)) (fun _ h_ => h_.1)))); (case side8 => exact (Kd.R_reads' HO_677006.out).2.1); rintro e w76 ⟨rfl, hb⟩; replace HO_1 := Aside0.mk (Kd.V_below (by (with_reducible repeat (first | apply Kd.V_alloc | apply Kd.V_drewN | apply Kd.V_drew)); exact (Kd.V_mono (Kd.V_far (p := ⟨gb727, 6, none⟩) (Kd.V_far (p := ⟨gb727, 5, none⟩) (Kd.V_far (p := ⟨gb727, 4, none⟩) (Kd.V_far (p := ⟨gb727, 3, none⟩) (Kd.V_far (p := ⟨gb727, 2, none⟩) (Kd.V_far (p := ⟨gb727, 1, none⟩) (Kd.V_far (p := ⟨gb727, 0, none⟩) (Kd.V_mono HO_1.out (fun k_ hk => (⟨hk, hk.2⟩ : _ ∧ k_ ≠ gb727))) (fun _ hk => hk.2) (.int .i64 t715)) (fun _ hk => hk.2) (.int .i64 t716)) (fun _ hk => hk.2) (.int .i64 t717)) (fun _ hk => hk.2) (.int .i64 t718)) (fun _ hk => hk.2) (.int .i64 t719)) (fun _ hk => hk.2) (.slice Ao72 t720.length co72)) (fun _ hk => hk.2) (.slice Ao73 t723.length co73)) (fun _ h_ => h_.1))) hb); replace HO_7 := Aside0.mk (Kd.R_below (by (with_reducible repeat (first | apply Kd.R_alloc | apply Kd.R_drewN | apply Kd.R_drew)); exact (Kd.R_mono (Kd.R_far (p := ⟨gb727, 6, none⟩) (Kd.R_far (p := ⟨gb727, 5, none⟩) (Kd.R_far (p := ⟨gb727, 4, none⟩) (Kd.R_far (p := ⟨gb727, 3, none⟩) (Kd.R_far (p := ⟨gb727, 2, none⟩) (Kd.R_far (p := ⟨gb727, 1, none⟩) (Kd.R_far (p := ⟨gb727, 0, none⟩) (Kd.R_types HO_7.out BK727.out (by decide)) (fun _ hk => hk.2) (.int .i64 t715)) (fun _ hk => hk.2) (.int .i64 t716)) (fun _ hk => hk.2) (.int .i64 t717)) (fun _ hk => hk.2) (.int .i64 t718)) (fun _ hk => hk.2) (.int .i64 t719)) (fun _ hk => hk.2) (.slice Ao72 t720.length co72)) (fun _ hk => hk.2) (.slice Ao73 t723.length co73)) (fun _ h_ => h_.1))) hb); replace HO_677005 := Aside0.mk (Kd.R_below (by (with_reducible repeat (first | apply Kd.R_alloc | apply Kd.R_drewN | apply Kd.R_drew)); exact (Kd.R_mono (Kd.R_far (p := ⟨gb727, 6, none⟩) (Kd.R_far (p := ⟨gb727, 5, none⟩) (Kd.R_far (p := ⟨gb727, 4, none⟩) (Kd.R_far (p := ⟨gb727, 3, none⟩) (Kd.R_far (p := ⟨gb727, 2, none⟩) (Kd.R_far (p := ⟨gb727, 1, none⟩) (Kd.R_far (p := ⟨gb727, 0, none⟩) (Kd.R_types HO_677005.out BK727.out (by decide)) (fun _ hk => hk.2) (.int .i64 t715)) (fun _ hk => hk.2) (.int .i64 t716)) (fun _ hk => hk.2) (.int .i64 t717)) (fun _ hk => hk.2) (.int .i64 t718)) (fun _ hk => hk.2) (.int .i64 t719)) (fun _ hk => hk.2) (.slice Ao72 t720.length co72)) (fun _ hk => hk.2) (.slice Ao73 t723.length co73)) (fun _ h_ => h_.1))) hb); replace HO_677006 := Aside0.mk (Kd.R_below (by (with_reducible repeat (first | apply Kd.R_alloc | apply Kd.R_drewN | apply Kd.R_drew)); exact (Kd.R_mono (Kd.R_far (p := ⟨gb727, 6, none⟩) (Kd.R_far (p := ⟨gb727, 5, none⟩) (Kd.R_far (p := ⟨gb727, 4, none⟩) (Kd.R_far (p := ⟨gb727, 3, none⟩) (Kd.R_far (p := ⟨gb727, 2, none⟩) (Kd.R_far (p := ⟨gb727, 1, none⟩) (Kd.R_far (p := ⟨gb727, 0, none⟩) (Kd.R_types HO_677006.out BK727.out (by decide)) (fun _ hk => hk.2) (.int .i64 t715)) (fun _ hk => hk.2) (.int .i64 t716)) (fun _ hk => hk.2) (.int .i64 t717)) (fun _ hk => hk.2) (.int .i64 t718)) (fun _ hk => hk.2) (.int .i64 t719)) (fun _ hk => hk.2) (.slice Ao72 t720.length co72)) (fun _ hk => hk.2) (.slice Ao73 t723.length co73)) (fun _ h_ => h_.1))) hb); replace HO_706005 := Aside0.mk (Kd.R_below (by (with_reducible repeat (first | apply Kd.R_alloc | apply Kd.R_drewN | apply Kd.R_drew)); exact (Kd.R_mono (Kd.R_far (p := ⟨gb727, 6, none⟩) (Kd.R_far (p := ⟨gb727, 5, none⟩) (Kd.R_far (p := ⟨gb727, 4, none⟩) (Kd.R_far (p := ⟨gb727, 3, none⟩) (Kd.R_far (p := ⟨gb727, 2, none⟩) (Kd.R_far (p := ⟨gb727, 1, none⟩) (Kd.R_far (p := ⟨gb727, 0, none⟩) (Kd.R_types HO_706005.out BK727.out (by decide)) (fun _ hk => hk.2) (.int .i64 t715)) (fun _ hk => hk.2) (.int .i64 t716)) (fun _ hk => hk.2) (.int .i64 t717)) (fun _ hk => hk.2) (.int .i64 t718)) (fun _ hk => hk.2) (.int .i64 t719)) (fun _ hk => hk.2) (.slice Ao72 t720.length co72)) (fun _ hk => hk.2) (.slice Ao73 t723.length co73)) (fun _ h_ => h_.1))) hb); replace HO_706006 := Aside0.mk (Kd.R_below (by (with_reducible repeat (first | apply Kd.R_alloc | apply Kd.R_drewN | apply Kd.R_drew)); exact (Kd.R_mono (Kd.R_far (p := ⟨gb727, 6, none⟩) (Kd.R_far (p := ⟨gb727, 5, none⟩) (Kd.R_far (p := ⟨gb727, 4, none⟩) (Kd.R_far (p := ⟨gb727, 3, none⟩) (Kd.R_far (p := ⟨gb727, 2, none⟩) (Kd.R_far (p := ⟨gb727, 1, none⟩) (Kd.R_far (p := ⟨gb727, 0, none⟩) (Kd.R_types HO_706006.out BK727.out (by decide)) (fun _ hk => hk.2) (.int .i64 t715)) (fun _ hk => hk.2) (.int .i64 t716)) (fun _ hk => hk.2) (.int .i64 t717)) (fun _ hk => hk.2) (.int .i64 t718)) (fun _ hk => hk.2) (.int .i64 t719)) (fun _ hk => hk.2) (.slice Ao72 t720.length co72)) (fun _ hk => hk.2) (.slice Ao73 t723.length co73)) (fun _ h_ => h_.1))) hb); replace HO712 := Aside0.mk (Kd.R_below (by (with_reducible repeat (first | apply Kd.R_alloc | apply Kd.R_drewN | apply Kd.R_drew)); exact (Kd.R_mono (Kd.R_far (p := ⟨gb727, 6, none⟩) (Kd.R_far (p := ⟨gb727, 5, none⟩) (Kd.R_far (p := ⟨gb727, 4, none⟩) (Kd.R_far (p := ⟨gb727, 3, none⟩) (Kd.R_far (p := ⟨gb727, 2, none⟩) (Kd.R_far (p := ⟨gb727, 1, none⟩) (Kd.R_far (p := ⟨gb727, 0, none⟩) (Kd.R_types HO712.out BK727.out (by decide)) (fun _ hk => hk.2) (.int .i64 t715)) (fun _ hk => hk.2) (.int .i64 t716)) (fun _ hk => hk.2) (.int .i64 t717)) (fun _ hk => hk.2) (.int .i64 t718)) (fun _ hk => hk.2) (.int .i64 t719)) (fun _ hk => hk.2) (.slice Ao72 t720.length co72)) (fun _ hk => hk.2) (.slice Ao73 t723.length co73)) (fun _ h_ => h_.1))) hb); replace HO722 := Aside0.mk (Kd.R_below (by (with_reducible repeat (first | apply Kd.R_alloc | apply Kd.R_drewN | apply Kd.R_drew)); exact (Kd.R_mono (Kd.R_far (p := ⟨gb727, 6, none⟩) (Kd.R_far (p := ⟨gb727, 5, none⟩) (Kd.R_far (p := ⟨gb727, 4, none⟩) (Kd.R_far (p := ⟨gb727, 3, none⟩) (Kd.R_far (p := ⟨gb727, 2, none⟩) (Kd.R_far (p := ⟨gb727, 1, none⟩) (Kd.R_far (p := ⟨gb727, 0, none⟩) (Kd.R_types HO722.out BK727.out (by decide)) (fun _ hk => hk.2) (.int .i64 t715)) (fun _ hk => hk.2) (.int .i64 t716)) (fun _ hk => hk.2) (.int .i64 t717)) (fun _ hk => hk.2) (.int .i64 t718)) (fun _ hk => hk.2) (.int .i64 t719)) (fun _ hk => hk.2) (.slice Ao72 t720.length co72)) (fun _ hk => hk.2) (.slice Ao73 t723.length co73)) (fun _ h_ => h_.1))) hb); replace HO725 := Aside0.mk (Kd.R_below (by (with_reducible repeat (first | apply Kd.R_alloc | apply Kd.R_drewN | apply Kd.R_drew)); exact (Kd.R_mono (Kd.R_far (p := ⟨gb727, 6, none⟩) (Kd.R_far (p := ⟨gb727, 5, none⟩) (Kd.R_far (p := ⟨gb727, 4, none⟩) (Kd.R_far (p := ⟨gb727, 3, none⟩) (Kd.R_far (p := ⟨gb727, 2, none⟩) (Kd.R_far (p := ⟨gb727, 1, none⟩) (Kd.R_far (p := ⟨gb727, 0, none⟩) (Kd.R_types HO725.out BK727.out (by decide)) (fun _ hk => hk.2) (.int .i64 t715)) (fun _ hk => hk.2) (.int .i64 t716)) (fun _ hk => hk.2) (.int .i64 t717)) (fun _ hk => hk.2) (.int .i64 t718)) (fun _ hk => hk.2) (.int .i64 t719)) (fun _ hk => hk.2) (.slice Ao72 t720.length co72)) (fun _ hk => hk.2) (.slice Ao73 t723.length co73)) (fun _ h_ => h_.1))) hb); replace BK676 := Aside0.mk (blk_below (g := gb676) (o := .cells #[.int .i64 t678, .int .i64 t679, .int .i64 t680, .int .i64 t681, .int .i64 t682, .slice Ao13 t683.length co13, .slice Ao14 t686.length co14] 42 (0, 0)) (by (with_reducible repeat (first | refine blk_drewN ?_ _ | refine blk_drew ?_ | refine blk_alloc ?_ _)); refine blk_far ?_ NB676_727.out _; (with_reducible repeat (first | refine blk_drewN ?_ _ | refine blk_drew ?_ | refine blk_alloc ?_ _)); refine blk_far ?_ NB676_727.out _; (with_reducible repeat (first | refine blk_drewN ?_ _ | refine blk_drew ?_ | refine blk_alloc ?_ _)); refine blk_far ?_ NB676_727.out _; (with_reducible repeat (first | refine blk_drewN ?_ _ | refine blk_drew ?_ | refine blk_alloc ?_ _)); refine blk_far ?_ NB676_727.out _; (with_reducible repeat (first | refine blk_drewN ?_ _ | refine blk_drew ?_ | refine blk_alloc ?_ _)); refine blk_far ?_ NB676_727.out _; (with_reducible repeat (first | refine blk_drewN ?_ _ | refine blk_drew ?_ | refine blk_alloc ?_ _)); refine blk_far ?_ NB676_727.out _; (with_reducible repeat (first | refine blk_drewN ?_ _ | refine blk_drew ?_ | refine blk_alloc ?_ _)); refine blk_far ?_ NB676_727.out _; (with_reducible repeat (first | refine blk_drewN ?_ _ | refine blk_drew ?_ | refine blk_alloc ?_ _)); exact BK676.out) hb); replace BK677 := Aside0.mk (blk_below (g := gb677) (o := .cells #[.int .u8 a2_0, .int .u8 a2_1] 60 (0, 0)) (by (with_reducible repeat (first | refine blk_drewN ?_ _ | refine blk_drew ?_ | refine blk_alloc ?_ _)); refine blk_far ?_ NB677_727.out _; (with_reducible repeat (first | refine blk_drewN ?_ _ | refine blk_drew ?_ | refine blk_alloc ?_ _)); refine blk_far ?_ NB677_727.out _; (with_reducible repeat (first | refine blk_drewN ?_ _ | refine blk_drew ?_ | refine blk_alloc ?_ _)); refine blk_far ?_ NB677_727.out _; (with_reducible repeat (first | refine blk_drewN ?_ _ | refine blk_drew ?_ | refine blk_alloc ?_ _)); refine blk_far ?_ NB677_727.out _; (with_reducible repeat (first | refine blk_drewN ?_ _ | refine blk_drew ?_ | refine blk_alloc ?_ _)); refine blk_far ?_ NB677_727.out _; (with_reducible repeat (first | refine blk_drewN ?_ _ | refine blk_drew ?_ | refine blk_alloc ?_ _)); refine blk_far ?_ NB677_727.out _; (with_reducible repeat (first | refine blk_drewN ?_ _ | refine blk_drew ?_ | refine blk_alloc ?_ _)); refine blk_far ?_ NB677_727.out _; (with_reducible repeat (first | refine blk_drewN ?_ _ | refine blk_drew ?_ | refine blk_alloc ?_ _)); exact BK677.out) hb); replace BK705 := Aside0.mk (blk_below (g := gb705) (o := .cells #[.int .i64 t693, .int .i64 t694, .int .i64 t695, .int .i64 t696, .int .i64 t697, .slice Ao25 t698.length co25, .slice Ao26 t701.length co26] 42 (0, 0)) (by (with_reducible repeat (first | refine blk_drewN ?_ _ | refine blk_drew ?_ | refine blk_alloc ?_ _)); refine blk_far ?_ NB705_727.out _; (with_reducible repeat (first | refine blk_drewN ?_ _ | refine blk_drew ?_ | refine blk_alloc ?_ _)); refine blk_far ?_ NB705_727.out _; (with_reducible repeat (first | refine blk_drewN ?_ _ | refine blk_drew ?_ | refine blk_alloc ?_ _)); refine blk_far ?_ NB705_727.out _; (with_reducible repeat (first | refine blk_drewN ?_ _ | refine blk_drew ?_ | refine blk_alloc ?_ _)); refine blk_far ?_ NB705_727.out _; (with_reducible repeat (first | refine blk_drewN ?_ _ | refine blk_drew ?_ | refine blk_alloc ?_ _)); refine blk_far ?_ NB705_727.out _; (with_reducible repeat (first | refine blk_drewN ?_ _ | refine blk_drew ?_ | refine blk_alloc ?_ _)); refine blk_far ?_ NB705_727.out _; (with_reducible repeat (first | refine blk_drewN ?_ _ | refine blk_drew ?_ | refine blk_alloc ?_ _)); refine blk_far ?_ NB705_727.out _; (with_reducible repeat (first | refine blk_drewN ?_ _ | refine blk_drew ?_ | refine blk_alloc ?_ _)); exact BK705.out) hb); replace BK727 := Aside0.mk (blk_below (g := gb727) (o := .cells #[.int .i64 t715, .int .i64 t716, .int .i64 t717, .int .i64 t718, .int .i64 t719, .slice Ao72 t720.length co72, .slice Ao73 t723.length co73] 42 (0, 0)) (by (with_reducible repeat (first | refine blk_drewN ?_ _ | refine blk_drew ?_ | refine blk_alloc ?_ _)); refine blk_put (cs := #[.int .i64 t715, .int .i64 t716, .int .i64 t717, .int .i64 t718, .int .i64 t719, .slice Ao72 t720.length co72, .slice none 0 0]) ?_ 6 _ rfl; (with_reducible repeat (first | refine blk_drewN ?_ _ | refine blk_drew ?_ | refine blk_alloc ?_ _)); refine blk_put (cs := #[.int .i64 t715, .int .i64 t716, .int .i64 t717, .int .i64 t718, .int .i64 t719, .slice none 0 0, .slice none 0 0]) ?_ 5 _ rfl; (with_reducible repeat (first | refine blk_drewN ?_ _ | refine blk_drew ?_ | refine blk_alloc ?_ _)); refine blk_put (cs := #[.int .i64 t715, .int .i64 t716, .int .i64 t717, .int .i64 t718, .int .i64 0, .slice none 0 0, .slice none 0 0]) ?_ 4 _ rfl; (with_reducible repeat (first | refine blk_drewN ?_ _ | refine blk_drew ?_ | refine blk_alloc ?_ _)); refine blk_put (cs := #[.int .i64 t715, .int .i64 t716, .int .i64 t717, .int .i64 0, .int .i64 0, .slice none 0 0, .slice none 0 0]) ?_ 3 _ rfl; (with_reducible repeat (first | refine blk_drewN ?_ _ | refine blk_drew ?_ | refine blk_alloc ?_ _)); refine blk_put (cs := #[.int .i64 t715, .int .i64 t716, .int .i64 0, .int .i64 0, .int .i64 0, .slice none 0 0, .slice none 0 0]) ?_ 2 _ rfl; (with_reducible repeat (first | refine blk_drewN ?_ _ | refine blk_drew ?_ | refine blk_alloc ?_ _)); refine blk_put (cs := #[.int .i64 t715, .int .i64 0, .int .i64 0, .int .i64 0, .int .i64 0, .slice none 0 0, .slice none 0 0]) ?_ 1 _ rfl; (with_reducible repeat (first | refine blk_drewN ?_ _ | refine blk_drew ?_ | refine blk_alloc ?_ _)); refine blk_put (cs := #[.int .i64 0, .int .i64 0, .int .i64 0, .int .i64 0, .int .i64 0, .slice none 0 0, .slice none 0 0]) ?_ 0 _ rfl; (with_reducible repeat (first | refine blk_drewN ?_ _ | refine blk_drew ?_ | refine blk_alloc ?_ _)); exact BK727.out) hb); replace HB := Aside0.mk (below_step (bs HB (by simp [ag, GE676.out, GE677.out, GE705.out, GE727.out])) hb); (try clear hb); (try clear hb2); (try clear hk); (try clear hi)))
            go_meet
            case rel => exact ⟨_, (l1), H', ⟨by have := HJ17.out; first | omega | exact Nat.le_refl _⟩, ⟨Kd.V_mono (vk HO_1) (fun _ hk => ⟨hk.1.1.1.1, ⟨hk.1.1.1.2.2.1, ⟨hk.1.1.1.2.2.2.1, ⟨hk.1.1.1.2.2.2.2.2.2.2.1, hk.1.1.1.2.2.2.2.2.2.2.2.1⟩⟩⟩⟩)⟩, ⟨Kd.R_mono (rk HO_677005) (fun _ hk => ⟨hk.1.1.1, hk.1.1.2.1⟩)⟩, ⟨Kd.R_mono (rk HO_677006) (fun _ hk => ⟨hk.1.1.1, hk.1.1.2.1⟩)⟩, ⟨bk BK676⟩, ⟨bk BK677⟩, ⟨bs HB (by simp [ag, GE676.out, GE677.out, GE705.out, GE727.out])⟩⟩
          ·rw [if_neg c53] at H
           have c53b0 : (t726 == 0) = false := beq_eq_false_iff_ne.mpr c53
           have c53b1 : (t726 != 0) = true := bne_iff_ne.mpr c53
           have H' := Aside0.mk H
           clear H
           have hnb77 := NB677_676.out
           have hnc77 := NB676_677.out
           have hnb78 := NB677_705.out
           have hnc78 := NB705_677.out
           obtain ⟨hcz79_0, hcz79_1, hfz79_0, hfz79_1⟩ := cf2 BK677
           try go_wp2_with (first | ((with_reducible refine gate_dst (N := 48) rfl ?_); (try (refine gate_guard (by rfl) ?_; dsimp only)); refine Kd.R_lit (Kd.int .u8) _ 5 ?hg (N := 48) ?hd (xs := ([] : List Int)) (inner := []) (ok := fun _ => True) (okp := fun _ => True) ?hr ?hp (fun _ hk => hk) trivial (Below.refl _ _) (Nat.le_refl _) (by simp) ?_; (case hd => rfl); (case hg => rfl); (case hr => first | (go_simp; done) | (go_simp; rfl)); (case hp => exact (Reps.none _ _)); intro v708 w80 ho81 hb hg_ hnew_; clear hg_ hnew_; (first | rw [← Ny707.out] at ho81 | (simp only [Int.reduceToNat] at ho81; rw [← Ny707.out] at ho81)); replace HO_1 := Aside0.mk (Kd.V_elder' (vk HO_1) (Kd.R_base ho81) hb); replace HO_677005 := Aside0.mk (Kd.R_below (rk HO_677005) hb); replace HO_677006 := Aside0.mk (Kd.R_below (rk HO_677006) hb); replace HO_706005 := Aside0.mk (Kd.R_below (rk HO_706005) hb); replace HO_706006 := Aside0.mk (Kd.R_below (rk HO_706006) hb); have HO709 := Aside0.mk (Kd.R_lower (Kd.R_new' (Kd.R_newM (M := fun k_ => (w.heap.size ≤ k_)) ho81 (below_size (bs HB (by simp [ag, GE676.out, GE677.out, GE705.out]))) (fun k_ h_ => h_)) (Kd.R_lt (rk HO_7))) (below_size (bs HB (by simp [ag, GE676.out, GE677.out, GE705.out])))); replace HO_7 := Aside0.mk (Kd.R_elder' (rk HO_7) (Kd.R_base ho81) hb); replace BK676 := Aside0.mk (bb BK676 hb); replace BK677 := Aside0.mk (bb BK677 hb); replace BK705 := Aside0.mk (bb BK705 hb); replace HB := Aside0.mk (below_step (bs HB (by simp [ag, GE676.out, GE677.out, GE705.out])) hb); clear hb ho81) | ((with_reducible refine gate_builtin (b := .append) (xs := #[.tmp 48, .tmp 49]) rfl ?_); (try (refine gate_guard (by rfl) ?_; dsimp only)); at_builtin; refine Kd.R_append_rows (Kd.int .u8) (w0 := w) w.heap.size rfl (.tmp 48) (.tmp 49) 35 5 (.int .u8 0) 1 rfl Try.underlying35 info5 rfl (by decide) (by omega) v708 y707 t689 _ _ _ (fun k_ => (w.heap.size ≤ k_) ∧ some k_ ≠ (.slice Ao19 t689.length co19 : Value).ownBlock) (fun _ => False) rfl rfl ?aO ?aR (fun _ _ h => h) (fun _ h => h.elim) ?aF ?aB ?aS ?aL ?_; (case aR => repeat (first | exact (Kd.R_reads' HO_7.out).2.2 | (with_reducible refine Kd.C_alloc ?_ _) | (with_reducible refine Kd.C_drewN ?_ _) | (with_reducible refine Kd.C_drew ?_))); (case aB => exact (bs HB (by simp [ag, GE676.out, GE677.out, GE705.out]))); (case aF => exact (fun k_ hk => ⟨(Nat.le_trans (below_size (bs HB (by simp [ag, GE676.out, GE677.out, GE705.out]))) hk), Kd.fresh' (Kd.R_lt (rk HO_7)) k_ hk⟩)); (case aO => exact (Kd.R_mono (rk HO709) (fun _ hk => ⟨hk.1.1, hk.2⟩))); (case aS => exact (below_size (bs HB (by simp [ag, GE676.out, GE677.out, GE705.out])))); (case aL => have := LMc47.out; omega); intro v711 w82 ho hb hg hat; rw [← Ny710.out] at ho; replace HO_1 := Aside0.mk (Kd.V_afterv (ok := (fun k_ => (P1_ k_ ∨ w.heap.size ≤ k_) ∧ some k_ ≠ (.slice Ao19 t689.length co19 : Value).ownBlock ∧ some k_ ≠ (.slice Ao13 t683.length co13 : Value).ownBlock ∧ some k_ ≠ (.slice Ao14 t686.length co14 : Value).ownBlock ∧ some k_ ≠ (.slice Ao25 t698.length co25 : Value).ownBlock ∧ some k_ ≠ (.slice Ao26 t701.length co26 : Value).ownBlock ∧ k_ ≠ gb676 ∧ k_ ≠ gb677 ∧ k_ ≠ gb705)) (vk HO_1) hg hat); replace HO_7 := Aside0.mk (Kd.R_after (ok := (fun k_ => (w.heap.size ≤ k_))) (rk HO_7) hg hat); replace HO_677005 := Aside0.mk (Kd.R_over' (rk HO_677005) (Kd.R_typed (rk HO709)) (by decide) hg); replace HO_677006 := Aside0.mk (Kd.R_over' (rk HO_677006) (Kd.R_typed (rk HO709)) (by decide) hg); replace HO_706005 := Aside0.mk (Kd.R_over' (rk HO_706005) (Kd.R_typed (rk HO709)) (by decide) hg); replace HO_706006 := Aside0.mk (Kd.R_over' (rk HO_706006) (Kd.R_typed (rk HO709)) (by decide) hg); replace BK676 := Aside0.mk (blk_grown (g := gb676) (o := .cells #[.int .i64 t678, .int .i64 t679, .int .i64 t680, .int .i64 t681, .int .i64 t682, .slice Ao13 t683.length co13, .slice Ao14 t686.length co14] 42 (0, 0)) (bk BK676) hg (Kd.R_ne HO709.out BK676.out (by decide))); replace BK677 := Aside0.mk (blk_grown (g := gb677) (o := .cells #[.int .u8 a2_0, .int .u8 a2_1] 60 (0, 0)) (bk BK677) hg (Kd.R_ne HO709.out BK677.out (by decide))); replace BK705 := Aside0.mk (blk_grown (g := gb705) (o := .cells #[.int .i64 t693, .int .i64 t694, .int .i64 t695, .int .i64 t696, .int .i64 t697, .slice Ao25 t698.length co25, .slice Ao26 t701.length co26] 42 (0, 0)) (bk BK705) hg (Kd.R_ne HO709.out BK705.out (by decide))); replace HB := Aside0.mk (hb); have HO712 := Aside0.mk (ho); clear HO709; clear ho hb hg hat))
           have n0_ := Aside0.mk (Kd.V_drew HO_1.out)
           have n1_ := Aside0.mk (Kd.R_drew HO_7.out)
           have n2_ := Aside0.mk (Kd.R_drew HO_677005.out)
           have n3_ := Aside0.mk (Kd.R_drew HO_677006.out)
           have n4_ := Aside0.mk (Kd.R_drew HO_706005.out)
           have n5_ := Aside0.mk (Kd.R_drew HO_706006.out)
           have n6_ := Aside0.mk (Kd.R_drew HO712.out)
           have n7_ := Aside0.mk (blk_drew BK676.out)
           have n8_ := Aside0.mk (blk_drew BK677.out)
           have n9_ := Aside0.mk (blk_drew BK705.out)
           have n10_ := Aside0.mk (below_drew1 HB.out)
           clear HO_1
           clear HO_7
           clear HO_677005
           clear HO_677006
           clear HO_706005
           clear HO_706006
           clear HO712
           clear BK676
           clear BK677
           clear BK705
           clear HB
           have HO_1 := n0_
           have HO_7 := n1_
           have HO_677005 := n2_
           have HO_677006 := n3_
           have HO_706005 := n4_
           have HO_706006 := n5_
           have HO712 := n6_
           have BK676 := n7_
           have BK677 := n8_
           have BK705 := n9_
           have HB := n10_
           clear n0_ n1_ n2_ n3_ n4_ n5_ n6_ n7_ n8_ n9_ n10_
           obtain ⟨Ao84, co84, eo84⟩ := Kd.R_slice HO712.out
           (first | subst eo84 | (injection eo84 with f1_ f2_ f3_; have f4_ := f1_.symm; have f5_ := f3_.symm; clear f1_ f2_ f3_; subst f4_; subst f5_))
           have p713 : 0 ≤ ((ji48) : Int) := of_decide_eq_true (by assumption)
           have q713 : (ji48) < (y710.length : Int) := of_decide_eq_true (by assumption)
           obtain ⟨ad713, e713, hx713_0⟩ := Kd.at_int (Kd.R_reads' HO712.out).2.2 (ji48) p713 q713
           cases e713
           replace p713 := eq_true p713
           replace q713 := eq_true q713
           have p51 : 0 ≤ ((ji48) : Int) := of_decide_eq_true (by assumption)
           have q51 : ((ji48) : Int) < ((y710.length : Int) : Int) := of_decide_eq_true (by assumption)
           obtain ⟨go51, co51, eo51, gb51, gl51, cl51, HG51⟩ := Kd.R_form HO712.out (by omega)
           (first | cases eo51 | (injection eo51 with ea_ en_ ec_; (first | subst ea_ | (injection ea_ with ea_; subst ea_)); subst ec_; clear en_))
           have GB51 := Aside0.mk gb51
           have GG51 := Aside0.mk HG51
           clear gb51 gl51 HG51
           (first | simp only [add_plain] at hx713_0 | skip)
           obtain ⟨hx51_0, hf51_0⟩ := Kd.R_celln 0 HO712.out ((ji48) : Int) p51 q51
           replace p51 := eq_true p51
           replace q51 := eq_true q51
           have HP85 := Kd.R_putn HO712.out ((ji48) : Int) (Go.bits .xor .u8 (rd y710 (ji48)) a2_1)
           rw [← Ny714.out] at HP85
           have HQ85 := Aside0.mk HP85
           clear HP85
           refine start_ (n := 11) (S := fun w' => w'.cell? ⟨gb677, 0, none⟩ = some (.int .u8 a2_0) ∧ w'.cell? ⟨gb677, 1, none⟩ = some (.int .u8 a2_1) ∧ w'.cell? ⟨go51, ((ji48)).toNat, none⟩ = some (.int .u8 (rd y710 (ji48)))) (ds := [10]) #[false, false, false, false, false, false, false, false, false, false, false] (by kernel_rfl) rfl rfl ⟨(blk_cell BK677.out 0).trans rfl, (blk_cell BK677.out 1).trans rfl, hx713_0⟩ (fun hHeld => ?_); refine with_tabW selvedgelaw18_CylBack.tab9 selvedgelaw18_CylBack.bits9 (fun HT_ HW_ => ?_)
           generalize w82.drew = w83 at HO_1 HO_7 HO_677005 HO_677006 HO_706005 HO_706006 HO712 BK676 BK677 BK705 HB GG51 HQ85 hf51_0 hx51_0 hx713_0 hHeld ⊢
           refine pure_ (i := 0) (N := some 51) (v := ?_) (a' := ?_) #[true, false, false, false, false, false, false, false, false, false, false] rfl rfl (any_of HT_.out (by kernel_rfl)) (fun _ _ _ h => h) (Or.inl ⟨by rfl, ?_⟩) ?_ ?_
           rotate_left
           ·intro w'
            go_simp
            with_reducible rfl
           rotate_left
           ·simp only [Act.put, List.setIfInBounds_toArray, List.set_cons_zero, List.set_cons_succ, i64_w, i32_w]
            rfl
           refine pure_ (i := 1) (N := some 52) (v := ?_) (a' := ?_) #[true, true, false, false, false, false, false, false, false, false, false] rfl rfl (any_of HT_.out (by kernel_rfl)) (fun _ _ _ h => h) (Or.inl ⟨by rfl, ?_⟩) ?_ ?_
           rotate_left
           ·intro w'
            go_simp
            with_reducible rfl
           rotate_left
           ·simp only [Act.put, List.setIfInBounds_toArray, List.set_cons_zero, List.set_cons_succ, i64_w, i32_w]
            rfl
           refine pure_ (i := 6) (N := some 57) (v := ?_) (a' := ?_) #[true, true, false, false, false, false, true, false, false, false, false] rfl rfl (any_of HT_.out (by kernel_rfl)) (fun _ _ _ h => h) (Or.inl ⟨by rfl, ?_⟩) ?_ ?_
           rotate_left
           ·intro w'
            go_simp
            with_reducible rfl
           rotate_left
           ·simp only [Act.put, List.setIfInBounds_toArray, List.set_cons_zero, List.set_cons_succ, i64_w, i32_w]
            rfl
           refine take_ (i := 2) (N := some 53) (v := ?_) (a' := ?_) #[true, true, true, false, false, false, true, false, false, false, false] rfl rfl (take_ofW HT_.out HW_.out (by kernel_rfl)) (fun _ _ _ h => h) (Or.inl ⟨by rfl, ?_⟩) hHeld ?_ ?_
           rotate_left
           ·rintro w' ⟨s0, s1, s2⟩
            go_simp
            with_reducible rfl
           rotate_left
           ·simp only [Act.put, List.setIfInBounds_toArray, List.set_cons_zero, List.set_cons_succ, i64_w, i32_w]
            rfl
           refine pure_ (i := 3) (N := some 54) (v := ?_) (a' := ?_) #[true, true, true, true, false, false, true, false, false, false, false] rfl rfl (any_of HT_.out (by kernel_rfl)) (fun _ _ _ h => h) (Or.inl ⟨by rfl, ?_⟩) ?_ ?_
           rotate_left
           ·intro w'
            go_simp
            with_reducible rfl
           rotate_left
           ·simp only [Act.put, List.setIfInBounds_toArray, List.set_cons_zero, List.set_cons_succ, i64_w, i32_w]
            rfl
           refine pure_ (i := 4) (N := some 55) (v := ?_) (a' := ?_) #[true, true, true, true, true, false, true, false, false, false, false] rfl rfl (any_of HT_.out (by kernel_rfl)) (fun _ _ _ h => h) (Or.inl ⟨by rfl, ?_⟩) ?_ ?_
           rotate_left
           ·intro w'
            go_simp
            with_reducible rfl
           rotate_left
           ·simp only [Act.put, List.setIfInBounds_toArray, List.set_cons_zero, List.set_cons_succ, i64_w, i32_w]
            rfl
           refine take_ (i := 5) (N := some 56) (v := ?_) (a' := ?_) #[true, true, true, true, true, true, true, false, false, false, false] rfl rfl (take_ofW HT_.out HW_.out (by kernel_rfl)) (fun _ _ _ h => h) (Or.inl ⟨by rfl, ?_⟩) hHeld ?_ ?_
           rotate_left
           ·rintro w' ⟨s0, s1, s2⟩
            go_simp
            with_reducible rfl
           rotate_left
           ·simp only [Act.put, List.setIfInBounds_toArray, List.set_cons_zero, List.set_cons_succ, i64_w, i32_w]
            rfl
           refine take_ (i := 7) (N := some 58) (v := ?_) (a' := ?_) #[true, true, true, true, true, true, true, true, false, false, false] rfl rfl (take_ofW HT_.out HW_.out (by kernel_rfl)) (fun _ _ _ h => h) (Or.inl ⟨by rfl, ?_⟩) hHeld ?_ ?_
           rotate_left
           ·rintro w' ⟨s0, s1, s2⟩
            go_simp
            with_reducible rfl
           rotate_left
           ·simp only [Act.put, List.setIfInBounds_toArray, List.set_cons_zero, List.set_cons_succ, i64_w, i32_w]
            rfl
           refine pure_ (i := 8) (N := some 59) (v := ?_) (a' := ?_) #[true, true, true, true, true, true, true, true, true, false, false] rfl rfl (any_of HT_.out (by kernel_rfl)) (fun _ _ _ h => h) (Or.inl ⟨by rfl, ?_⟩) ?_ ?_
           rotate_left
           ·intro w'
            go_simp
            with_reducible rfl
           rotate_left
           ·simp only [Act.put, List.setIfInBounds_toArray, List.set_cons_zero, List.set_cons_succ, i64_w, i32_w]
            rfl
           refine pure_ (i := 9) (N := some 60) (v := ?_) (a' := ?_) #[true, true, true, true, true, true, true, true, true, true, false] rfl rfl (any_of HT_.out (by kernel_rfl)) (fun _ _ _ h => h) (Or.inl ⟨by rfl, ?_⟩) ?_ ?_
           rotate_left
           ·intro w'
            go_simp
            with_reducible rfl
           rotate_left
           ·simp only [Act.put, List.setIfInBounds_toArray, List.set_cons_zero, List.set_cons_succ, i64_w, i32_w]
            rfl
           refine last_ (i := 10) (N := none) #[true, true, true, true, true, true, true, true, true, true, true] rfl rfl (one_of HT_.out (by kernel_rfl)) (by decide) (fun K hK => ?_)
           refine skip_ (w1 := ?_) (by rfl) rfl ?_ ?_
           rotate_left
           ·go_simp
            rfl
           refine hK.out _ _ ?_
           clear hK K
           refine done_ (done_of HT_.out (by kernel_rfl)) ?_
           have n0_ : Aside0 (Kd.V (Kd.int .u8) 5 (w83.setCell ⟨go51, ((ji48) : Int).toNat, none⟩ (.int .u8 (Go.bits .xor .u8 (rd y710 (ji48)) a2_1))) w.heap.size (fun k_ => (P1_ k_ ∨ w.heap.size ≤ k_) ∧ some k_ ≠ (.slice Ao19 t689.length co19 : Value).ownBlock ∧ some k_ ≠ (.slice Ao13 t683.length co13 : Value).ownBlock ∧ some k_ ≠ (.slice Ao14 t686.length co14 : Value).ownBlock ∧ some k_ ≠ (.slice Ao25 t698.length co25 : Value).ownBlock ∧ some k_ ≠ (.slice Ao26 t701.length co26 : Value).ownBlock ∧ some k_ ≠ (.slice (some ⟨go51, 0, none⟩) y710.length co84 : Value).ownBlock ∧ k_ ≠ gb676 ∧ k_ ≠ gb677 ∧ k_ ≠ gb705) (.slice A1 l1.length c1) l1) := ⟨by (with_reducible repeat (first | apply Kd.V_alloc | apply Kd.V_drewN | apply Kd.V_drew)); exact Kd.V_mono (Kd.V_far (p := ⟨go51, ((ji48) : Int).toNat, none⟩) (Kd.V_mono HO_1.out (fun k_ hk => (⟨hk, fun e_ => hk.2 (by rw [e_]; rfl)⟩ : _ ∧ k_ ≠ go51))) (fun _ hk => hk.2) (.int .u8 (Go.bits .xor .u8 (rd y710 (ji48)) a2_1))) (fun _ hk => ⟨hk.1.1.1, ⟨hk.1.1.2.1, ⟨hk.1.1.2.2.1, ⟨hk.1.1.2.2.2.1, ⟨hk.1.1.2.2.2.2.1, ⟨hk.1.1.2.2.2.2.2.1, ⟨hk.1.2, ⟨hk.1.1.2.2.2.2.2.2.1, ⟨hk.1.1.2.2.2.2.2.2.2.1, hk.1.1.2.2.2.2.2.2.2.2⟩⟩⟩⟩⟩⟩⟩⟩⟩)⟩
           have n1_ : Aside0 (Kd.R (Kd.int .u8) 84 (w83.setCell ⟨go51, ((ji48) : Int).toNat, none⟩ (.int .u8 (Go.bits .xor .u8 (rd y710 (ji48)) a2_1))) w.heap.size (fun k_ => (w.heap.size ≤ k_) ∧ some k_ ≠ (.slice (some ⟨go51, 0, none⟩) y710.length co84 : Value).ownBlock) (.slice Ao19 t689.length co19) t689) := ⟨by (with_reducible repeat (first | apply Kd.R_alloc | apply Kd.R_drewN | apply Kd.R_drew)); exact Kd.R_mono (Kd.R_far (p := ⟨go51, ((ji48) : Int).toNat, none⟩) (Kd.R_mono HO_7.out (fun k_ hk => (⟨hk, fun e_ => hk.2 (by rw [e_]; rfl)⟩ : _ ∧ k_ ≠ go51))) (fun _ hk => hk.2) (.int .u8 (Go.bits .xor .u8 (rd y710 (ji48)) a2_1))) (fun _ hk => ⟨hk.1.1, hk.1.2⟩)⟩
           have n2_ : Aside0 (Kd.R (Kd.int .i64) 3 (w83.setCell ⟨go51, ((ji48) : Int).toNat, none⟩ (.int .u8 (Go.bits .xor .u8 (rd y710 (ji48)) a2_1))) w.heap.size (fun k_ => (w.heap.size ≤ k_) ∧ some k_ ≠ (.slice Ao14 t686.length co14 : Value).ownBlock ∧ some k_ ≠ (.slice Ao25 t698.length co25 : Value).ownBlock ∧ some k_ ≠ (.slice Ao26 t701.length co26 : Value).ownBlock) (.slice Ao13 t683.length co13) t683) := ⟨by (with_reducible repeat (first | apply Kd.R_alloc | apply Kd.R_drewN | apply Kd.R_drew)); exact Kd.R_mono (Kd.R_far (p := ⟨go51, ((ji48) : Int).toNat, none⟩) (Kd.R_types HO_677005.out GG51.out (by decide)) (fun _ hk => hk.2) (.int .u8 (Go.bits .xor .u8 (rd y710 (ji48)) a2_1))) (fun _ hk => ⟨hk.1.1, ⟨hk.1.2.1, ⟨hk.1.2.2.1, hk.1.2.2.2⟩⟩⟩)⟩
           have n3_ : Aside0 (Kd.R (Kd.int .i64) 3 (w83.setCell ⟨go51, ((ji48) : Int).toNat, none⟩ (.int .u8 (Go.bits .xor .u8 (rd y710 (ji48)) a2_1))) w.heap.size (fun k_ => (w.heap.size ≤ k_) ∧ some k_ ≠ (.slice Ao13 t683.length co13 : Value).ownBlock ∧ some k_ ≠ (.slice Ao25 t698.length co25 : Value).ownBlock ∧ some k_ ≠ (.slice Ao26 t701.length co26 : Value).ownBlock) (.slice Ao14 t686.length co14) t686) := ⟨by (with_reducible repeat (first | apply Kd.R_alloc | apply Kd.R_drewN | apply Kd.R_drew)); exact Kd.R_mono (Kd.R_far (p := ⟨go51, ((ji48) : Int).toNat, none⟩) (Kd.R_types HO_677006.out GG51.out (by decide)) (fun _ hk => hk.2) (.int .u8 (Go.bits .xor .u8 (rd y710 (ji48)) a2_1))) (fun _ hk => ⟨hk.1.1, ⟨hk.1.2.1, ⟨hk.1.2.2.1, hk.1.2.2.2⟩⟩⟩)⟩
           have n4_ : Aside0 (Kd.R (Kd.int .i64) 3 (w83.setCell ⟨go51, ((ji48) : Int).toNat, none⟩ (.int .u8 (Go.bits .xor .u8 (rd y710 (ji48)) a2_1))) w.heap.size (fun k_ => (w.heap.size ≤ k_) ∧ some k_ ≠ (.slice Ao13 t683.length co13 : Value).ownBlock ∧ some k_ ≠ (.slice Ao14 t686.length co14 : Value).ownBlock ∧ some k_ ≠ (.slice Ao26 t701.length co26 : Value).ownBlock) (.slice Ao25 t698.length co25) t698) := ⟨by (with_reducible repeat (first | apply Kd.R_alloc | apply Kd.R_drewN | apply Kd.R_drew)); exact Kd.R_mono (Kd.R_far (p := ⟨go51, ((ji48) : Int).toNat, none⟩) (Kd.R_types HO_706005.out GG51.out (by decide)) (fun _ hk => hk.2) (.int .u8 (Go.bits .xor .u8 (rd y710 (ji48)) a2_1))) (fun _ hk => ⟨hk.1.1, ⟨hk.1.2.1, ⟨hk.1.2.2.1, hk.1.2.2.2⟩⟩⟩)⟩
           have n5_ : Aside0 (Kd.R (Kd.int .i64) 3 (w83.setCell ⟨go51, ((ji48) : Int).toNat, none⟩ (.int .u8 (Go.bits .xor .u8 (rd y710 (ji48)) a2_1))) w.heap.size (fun k_ => (w.heap.size ≤ k_) ∧ some k_ ≠ (.slice Ao13 t683.length co13 : Value).ownBlock ∧ some k_ ≠ (.slice Ao14 t686.length co14 : Value).ownBlock ∧ some k_ ≠ (.slice Ao25 t698.length co25 : Value).ownBlock) (.slice Ao26 t701.length co26) t701) := ⟨by (with_reducible repeat (first | apply Kd.R_alloc | apply Kd.R_drewN | apply Kd.R_drew)); exact Kd.R_mono (Kd.R_far (p := ⟨go51, ((ji48) : Int).toNat, none⟩) (Kd.R_types HO_706006.out GG51.out (by decide)) (fun _ hk => hk.2) (.int .u8 (Go.bits .xor .u8 (rd y710 (ji48)) a2_1))) (fun _ hk => ⟨hk.1.1, ⟨hk.1.2.1, ⟨hk.1.2.2.1, hk.1.2.2.2⟩⟩⟩)⟩
           have n6_ : Aside0 (Kd.R (Kd.int .u8) 5 (w83.setCell ⟨go51, ((ji48) : Int).toNat, none⟩ (.int .u8 (Go.bits .xor .u8 (rd y710 (ji48)) a2_1))) w.heap.size (fun k_ => (w.heap.size ≤ k_) ∧ some k_ ≠ (.slice Ao19 t689.length co19 : Value).ownBlock) (.slice (some ⟨go51, 0, none⟩) y710.length co84) y714) := ⟨by (with_reducible repeat (first | apply Kd.R_alloc | apply Kd.R_drewN | apply Kd.R_drew)); exact HQ85.out⟩
           have n7_ : Aside0 ((w83.setCell ⟨go51, ((ji48) : Int).toNat, none⟩ (.int .u8 (Go.bits .xor .u8 (rd y710 (ji48)) a2_1))).heap[gb676]? = some (.cells #[.int .i64 t678, .int .i64 t679, .int .i64 t680, .int .i64 t681, .int .i64 t682, .slice Ao13 t683.length co13, .slice Ao14 t686.length co14] 42 (0, 0))) := ⟨by (with_reducible repeat (first | refine blk_drewN ?_ _ | refine blk_drew ?_ | refine blk_alloc ?_ _)); refine blk_far ?_ (by have h_ := Kd.R_ne HO712.out BK676.out (by decide); intro e_; exact h_ (by rw [e_]; rfl)) _; (with_reducible repeat (first | refine blk_drewN ?_ _ | refine blk_drew ?_ | refine blk_alloc ?_ _)); exact BK676.out⟩
           have n8_ : Aside0 ((w83.setCell ⟨go51, ((ji48) : Int).toNat, none⟩ (.int .u8 (Go.bits .xor .u8 (rd y710 (ji48)) a2_1))).heap[gb677]? = some (.cells #[.int .u8 a2_0, .int .u8 a2_1] 60 (0, 0))) := ⟨by (with_reducible repeat (first | refine blk_drewN ?_ _ | refine blk_drew ?_ | refine blk_alloc ?_ _)); refine blk_far ?_ (by have h_ := Kd.R_ne HO712.out BK677.out (by decide); intro e_; exact h_ (by rw [e_]; rfl)) _; (with_reducible repeat (first | refine blk_drewN ?_ _ | refine blk_drew ?_ | refine blk_alloc ?_ _)); exact BK677.out⟩
           have n9_ : Aside0 ((w83.setCell ⟨go51, ((ji48) : Int).toNat, none⟩ (.int .u8 (Go.bits .xor .u8 (rd y710 (ji48)) a2_1))).heap[gb705]? = some (.cells #[.int .i64 t693, .int .i64 t694, .int .i64 t695, .int .i64 t696, .int .i64 t697, .slice Ao25 t698.length co25, .slice Ao26 t701.length co26] 42 (0, 0))) := ⟨by (with_reducible repeat (first | refine blk_drewN ?_ _ | refine blk_drew ?_ | refine blk_alloc ?_ _)); refine blk_far ?_ (by have h_ := Kd.R_ne HO712.out BK705.out (by decide); intro e_; exact h_ (by rw [e_]; rfl)) _; (with_reducible repeat (first | refine blk_drewN ?_ _ | refine blk_drew ?_ | refine blk_alloc ?_ _)); exact BK705.out⟩
           have n10_ : Aside0 (Below w.heap.size w (w83.setCell ⟨go51, ((ji48) : Int).toNat, none⟩ (.int .u8 (Go.bits .xor .u8 (rd y710 (ji48)) a2_1)))) := ⟨bs HB (by simp [ag, GB51.out, GE676.out, GE677.out, GE705.out])⟩
           (try clear HO_1)
           (try clear HO_7)
           (try clear HO_677005)
           (try clear HO_677006)
           (try clear HO_706005)
           (try clear HO_706006)
           (try clear HO712)
           (try clear BK676)
           (try clear BK677)
           (try clear BK705)
           (try clear HB)
           generalize (w83.setCell ⟨go51, ((ji48) : Int).toNat, none⟩ (.int .u8 (Go.bits .xor .u8 (rd y710 (ji48)) a2_1))) = w86 at n0_ n1_ n2_ n3_ n4_ n5_ n6_ n7_ n8_ n9_ n10_ ⊢
           have HO_1 := n0_
           have HO_7 := n1_
           have HO_677005 := n2_
           have HO_677006 := n3_
           have HO_706005 := n4_
           have HO_706006 := n5_
           have HO712 := n6_
           have BK676 := n7_
           have BK677 := n8_
           have BK705 := n9_
           have HB := n10_
           clear n0_ n1_ n2_ n3_ n4_ n5_ n6_ n7_ n8_ n9_ n10_
           try go_wp2_with (first | ((with_reducible refine gate_callee (f := 32) rfl ?_); refine goesL_ (some 63) rfl rfl Try.func32 (by kernel_rfl) rfl #[.slice (some ⟨go51, 0, none⟩) y714.length co84] rfl (by (try simp only [List.map_toArray, List.map_cons, List.map_nil]); first | done | (rw [show y714.length = y710.length from (Kd.R_reads' HO712.out).1.symm] <;> rfl) | rfl | (simp only [List.length_drop, List.length_take]; rfl)) ?_; (with_reducible refine (cyl_Decode.calls _ _ y714 t715 t716 t717 t718 t719 t720 t723 t726 _ ?side1 ?side2 A52.out).mono ?_); (case side1 => repeat (first | exact (Kd.R_reads' HO712.out).2.2 | (with_reducible refine Kd.C_alloc ?_ _) | (with_reducible refine Kd.C_drewN ?_ _) | (with_reducible refine Kd.C_drew ?_))); (case side2 => rw [show y714.length = y710.length from (Kd.R_reads' HO712.out).1.symm]; exact (Kd.R_reads' HO712.out).2.1); rintro e w87 ⟨v721, v724, rfl, ho0, ho1, hb⟩; refine ⟨_, rfl, ?_⟩; have hone_v721 := Kd.R_one ho0; have hone_v724 := Kd.R_one ho1; replace HO_1 := Aside0.mk (Kd.V_mono (Kd.V_told (Kd.V_told (Kd.V_old (vk HO_1) hb) (Kd.R_base ho0)) (Kd.R_base ho1)) (fun _ h_ => h_.1)); replace HO_7 := Aside0.mk (Kd.R_below (rk HO_7) hb); replace HO712 := Aside0.mk (Kd.R_below (rk HO712) hb); have HO722 := Aside0.mk (Kd.R_lower (Kd.R_new' (Kd.R_new' (Kd.R_new' (Kd.R_new' (Kd.R_newM (M := fun k_ => (w.heap.size ≤ k_)) ho0 (below_size (bs HB (by simp [ag, GE676.out, GE677.out, GE705.out]))) (fun k_ h_ => h_)) (Kd.R_lt (rk HO_677005))) (Kd.R_lt (rk HO_677006))) (Kd.R_lt (rk HO_706005))) (Kd.R_lt (rk HO_706006))) (below_size (bs HB (by simp [ag, GE676.out, GE677.out, GE705.out])))); have HO725 := Aside0.mk (Kd.R_lower (Kd.R_new' (Kd.R_new' (Kd.R_new' (Kd.R_new' (Kd.R_newM (M := fun k_ => (w.heap.size ≤ k_)) ho1 (below_size (bs HB (by simp [ag, GE676.out, GE677.out, GE705.out]))) (fun k_ h_ => h_)) (Kd.R_lt (rk HO_677005))) (Kd.R_lt (rk HO_677006))) (Kd.R_lt (rk HO_706005))) (Kd.R_lt (rk HO_706006))) (below_size (bs HB (by simp [ag, GE676.out, GE677.out, GE705.out])))); replace HO_677005 := Aside0.mk (Kd.R_mono (Kd.R_told (Kd.R_told (Kd.R_old (rk HO_677005) hb) (Kd.R_base ho0)) (Kd.R_base ho1)) (fun _ h_ => h_.1)); replace HO_677006 := Aside0.mk (Kd.R_mono (Kd.R_told (Kd.R_told (Kd.R_old (rk HO_677006) hb) (Kd.R_base ho0)) (Kd.R_base ho1)) (fun _ h_ => h_.1)); replace HO_706005 := Aside0.mk (Kd.R_mono (Kd.R_told (Kd.R_told (Kd.R_old (rk HO_706005) hb) (Kd.R_base ho0)) (Kd.R_base ho1)) (fun _ h_ => h_.1)); replace HO_706006 := Aside0.mk (Kd.R_mono (Kd.R_told (Kd.R_told (Kd.R_old (rk HO_706006) hb) (Kd.R_base ho0)) (Kd.R_base ho1)) (fun _ h_ => h_.1)); replace BK676 := Aside0.mk (bb BK676 hb); replace BK677 := Aside0.mk (bb BK677 hb); replace BK705 := Aside0.mk (bb BK705 hb); replace HB := Aside0.mk (below_step (bs HB (by simp [ag, GE676.out, GE677.out, GE705.out])) hb); clear ho0 hb; (try clear ho1)) | ((with_reducible refine gate_dst (N := 12) rfl ?_); (try (refine gate_guard (by rfl) ?_; dsimp only)); refine box_event rfl (N := 12) rfl (cs := #[.int .i64 0, .int .i64 0, .int .i64 0, .int .i64 0, .int .i64 0, .slice none 0 0, .slice none 0 0]) (t := 42) (by first | (go_simp; done) | (go_simp; rfl)) ?_; intro gb727 hg w88 hbox hb; replace HO_1 := Aside0.mk (Kd.V_below (Kd.V_elderB (vk HO_1) gb727 (Nat.le_of_eq hg.symm)) hb); replace HO_7 := Aside0.mk (Kd.R_below (rk HO_7) hb); replace HO_677005 := Aside0.mk (Kd.R_below (rk HO_677005) hb); replace HO_677006 := Aside0.mk (Kd.R_below (rk HO_677006) hb); replace HO_706005 := Aside0.mk (Kd.R_below (rk HO_706005) hb); replace HO_706006 := Aside0.mk (Kd.R_below (rk HO_706006) hb); replace HO712 := Aside0.mk (Kd.R_below (rk HO712) hb); replace HO722 := Aside0.mk (Kd.R_below (rk HO722) hb); replace HO725 := Aside0.mk (Kd.R_below (rk HO725) hb); have BK727 := Aside0.mk (hbox); have GW727 := gl HB hg (by simp [ag, GE676.out, GE677.out, GE705.out]); have GE727 := gl HB hg (by simp [ag, GE676.out, GE677.out, GE705.out]); replace HB := Aside0.mk (below_step (bs HB (by simp [ag, GE676.out, GE677.out, GE705.out])) hb); have NB676_727 := nl BK676 hg; have NB727_676 := nt BK676 hg; replace BK676 := Aside0.mk (bb BK676 hb); have NB677_727 := nl BK677 hg; have NB727_677 := nt BK677 hg; replace BK677 := Aside0.mk (bb BK677 hb); have NB705_727 := nl BK705 hg; have NB727_705 := nt BK705 hg; replace BK705 := Aside0.mk (bb BK705 hb); clear hb hbox hg; have hnb89 := NB727_676.out; have hnc89 := NB676_727.out; have hnb90 := NB727_677.out; have hnc90 := NB677_727.out; have hnb91 := NB727_705.out; have hnc91 := NB705_727.out; obtain ⟨hcz92_0, hcz92_1, hcz92_2, hcz92_3, hcz92_4, hcz92_5, hcz92_6, hfz92_0, hfz92_1, hfz92_2, hfz92_3, hfz92_4, hfz92_5, hfz92_6⟩ := cf7 BK727; obtain ⟨Ao93, co93, eo93⟩ := Kd.R_slice HO722.out; subst eo93; obtain ⟨Ao94, co94, eo94⟩ := Kd.R_slice HO725.out; subst eo94))
           go_meet
           case rel => exact ⟨_, (l1), H', ⟨by have := HJ17.out; first | omega | exact Nat.le_refl _⟩, ⟨by (with_reducible repeat (first | apply Kd.V_alloc | apply Kd.V_drewN | apply Kd.V_drew)); exact Kd.V_mono (Kd.V_far (p := ⟨gb727, 6, none⟩) (Kd.V_far (p := ⟨gb727, 5, none⟩) (Kd.V_far (p := ⟨gb727, 4, none⟩) (Kd.V_far (p := ⟨gb727, 3, none⟩) (Kd.V_far (p := ⟨gb727, 2, none⟩) (Kd.V_far (p := ⟨gb727, 1, none⟩) (Kd.V_far (p := ⟨gb727, 0, none⟩) (Kd.V_mono HO_1.out (fun k_ hk => (⟨hk, hk.2⟩ : _ ∧ k_ ≠ gb727))) (fun _ hk => hk.2) (.int .i64 t715)) (fun _ hk => hk.2) (.int .i64 t716)) (fun _ hk => hk.2) (.int .i64 t717)) (fun _ hk => hk.2) (.int .i64 t718)) (fun _ hk => hk.2) (.int .i64 t719)) (fun _ hk => hk.2) (.slice Ao93 t720.length co93)) (fun _ hk => hk.2) (.slice Ao94 t723.length co94)) (fun _ hk => ⟨hk.1.1.1.1.1, ⟨hk.1.1.1.1.2.2.1, ⟨hk.1.1.1.1.2.2.2.1, ⟨hk.1.1.1.1.2.2.2.2.2.2.2.1, hk.1.1.1.1.2.2.2.2.2.2.2.2.1⟩⟩⟩⟩)⟩, ⟨by (with_reducible repeat (first | apply Kd.R_alloc | apply Kd.R_drewN | apply Kd.R_drew)); exact Kd.R_mono (Kd.R_far (p := ⟨gb727, 6, none⟩) (Kd.R_far (p := ⟨gb727, 5, none⟩) (Kd.R_far (p := ⟨gb727, 4, none⟩) (Kd.R_far (p := ⟨gb727, 3, none⟩) (Kd.R_far (p := ⟨gb727, 2, none⟩) (Kd.R_far (p := ⟨gb727, 1, none⟩) (Kd.R_far (p := ⟨gb727, 0, none⟩) (Kd.R_types HO_677005.out BK727.out (by decide)) (fun _ hk => hk.2) (.int .i64 t715)) (fun _ hk => hk.2) (.int .i64 t716)) (fun _ hk => hk.2) (.int .i64 t717)) (fun _ hk => hk.2) (.int .i64 t718)) (fun _ hk => hk.2) (.int .i64 t719)) (fun _ hk => hk.2) (.slice Ao93 t720.length co93)) (fun _ hk => hk.2) (.slice Ao94 t723.length co94)) (fun _ hk => ⟨hk.1.1.1.1, hk.1.1.1.2.1⟩)⟩, ⟨by (with_reducible repeat (first | apply Kd.R_alloc | apply Kd.R_drewN | apply Kd.R_drew)); exact Kd.R_mono (Kd.R_far (p := ⟨gb727, 6, none⟩) (Kd.R_far (p := ⟨gb727, 5, none⟩) (Kd.R_far (p := ⟨gb727, 4, none⟩) (Kd.R_far (p := ⟨gb727, 3, none⟩) (Kd.R_far (p := ⟨gb727, 2, none⟩) (Kd.R_far (p := ⟨gb727, 1, none⟩) (Kd.R_far (p := ⟨gb727, 0, none⟩) (Kd.R_types HO_677006.out BK727.out (by decide)) (fun _ hk => hk.2) (.int .i64 t715)) (fun _ hk => hk.2) (.int .i64 t716)) (fun _ hk => hk.2) (.int .i64 t717)) (fun _ hk => hk.2) (.int .i64 t718)) (fun _ hk => hk.2) (.int .i64 t719)) (fun _ hk => hk.2) (.slice Ao93 t720.length co93)) (fun _ hk => hk.2) (.slice Ao94 t723.length co94)) (fun _ hk => ⟨hk.1.1.1.1, hk.1.1.1.2.1⟩)⟩, ⟨by (with_reducible repeat (first | refine blk_drewN ?_ _ | refine blk_drew ?_ | refine blk_alloc ?_ _)); refine blk_far ?_ NB676_727.out _; (with_reducible repeat (first | refine blk_drewN ?_ _ | refine blk_drew ?_ | refine blk_alloc ?_ _)); refine blk_far ?_ NB676_727.out _; (with_reducible repeat (first | refine blk_drewN ?_ _ | refine blk_drew ?_ | refine blk_alloc ?_ _)); refine blk_far ?_ NB676_727.out _; (with_reducible repeat (first | refine blk_drewN ?_ _ | refine blk_drew ?_ | refine blk_alloc ?_ _)); refine blk_far ?_ NB676_727.out _; (with_reducible repeat (first | refine blk_drewN ?_ _ | refine blk_drew ?_ | refine blk_alloc ?_ _)); refine blk_far ?_ NB676_727.out _; (with_reducible repeat (first | refine blk_drewN ?_ _ | refine blk_drew ?_ | refine blk_alloc ?_ _)); refine blk_far ?_ NB676_727.out _; (with_reducible repeat (first | refine blk_drewN ?_ _ | refine blk_drew ?_ | refine blk_alloc ?_ _)); refine blk_far ?_ NB676_727.out _; (with_reducible repeat (first | refine blk_drewN ?_ _ | refine blk_drew ?_ | refine blk_alloc ?_ _)); exact BK676.out⟩, ⟨by (with_reducible repeat (first | refine blk_drewN ?_ _ | refine blk_drew ?_ | refine blk_alloc ?_ _)); refine blk_far ?_ NB677_727.out _; (with_reducible repeat (first | refine blk_drewN ?_ _ | refine blk_drew ?_ | refine blk_alloc ?_ _)); refine blk_far ?_ NB677_727.out _; (with_reducible repeat (first | refine blk_drewN ?_ _ | refine blk_drew ?_ | refine blk_alloc ?_ _)); refine blk_far ?_ NB677_727.out _; (with_reducible repeat (first | refine blk_drewN ?_ _ | refine blk_drew ?_ | refine blk_alloc ?_ _)); refine blk_far ?_ NB677_727.out _; (with_reducible repeat (first | refine blk_drewN ?_ _ | refine blk_drew ?_ | refine blk_alloc ?_ _)); refine blk_far ?_ NB677_727.out _; (with_reducible repeat (first | refine blk_drewN ?_ _ | refine blk_drew ?_ | refine blk_alloc ?_ _)); refine blk_far ?_ NB677_727.out _; (with_reducible repeat (first | refine blk_drewN ?_ _ | refine blk_drew ?_ | refine blk_alloc ?_ _)); refine blk_far ?_ NB677_727.out _; (with_reducible repeat (first | refine blk_drewN ?_ _ | refine blk_drew ?_ | refine blk_alloc ?_ _)); exact BK677.out⟩, ⟨bs HB (by simp [ag, GE676.out, GE677.out, GE705.out, GE727.out])⟩⟩
         ·rw [if_neg c50] at H
          exact absurd H (by simp)
        ·rw [if_neg c49] at H
         exact absurd H (by simp)
       ·rw [if_neg c47] at H
        exact absurd H (by simp)
  ·rw [if_neg c16] at H
   have c16b0 : (t692 == 0) = false := beq_eq_false_iff_ne.mpr c16
   have c16b1 : (t692 != 0) = true := bne_iff_ne.mpr c16
   (first | rw [c16b0] | (simp only [i64_w, i32_w]; rw [c16b0]) | skip)
   have H' := Aside0.mk H
   clear H
   go_wp2
   go_meet
   case rel => exact ⟨_, (l1), H', ⟨by first | omega | exact Nat.le_refl _⟩, ⟨Kd.V_mono (vk HO1) (fun _ hk => ⟨hk.1.1.1.1.1, ⟨hk.1.1.2, ⟨hk.1.2, ⟨hk.1.1.1.1.2, hk.1.1.1.2⟩⟩⟩⟩)⟩, ⟨rk HO685⟩, ⟨rk HO688⟩, ⟨bk BK676⟩, ⟨bk BK677⟩, ⟨bs HB (by simp [ag, GE676.out, GE677.out])⟩⟩
 case rest =>
  clear HC6
  try clear c1
  try clear p2
  try clear c3
  try clear c4
  try clear c5
  try clear p5
  try clear q5
  try clear hx5
  try clear hf5
  try clear c6
  try clear c7
  try clear p7
  try clear q7
  try clear hx7
  try clear c8
  try clear c9
  try clear c16
  try clear c16b0
  try clear c16b1
  try clear c32
  try clear c42
  try clear c43
  try clear c43b0
  try clear c43b1
  try clear c44
  try clear c45
  try clear c47
  try clear c49
  try clear c49b0
  try clear c50
  try clear c50b0
  try clear p51
  try clear q51
  try clear hx51
  try clear hf51
  try clear c53
  try clear c53b0
  try clear c53b1
  try clear c55
  try clear c56
  try clear c57
  try clear c68
  try clear c69
  try clear c70
  try clear p71
  try clear q71
  try clear hx71
  try clear c74
  try clear c77
  try clear c78
  try clear c89
  try clear c90
  try clear c91
  try clear hcz10_5
  try clear hcz10_6
  try clear hcz12_0
  try clear hcz12_1
  try clear hcz12_2
  try clear hcz12_3
  try clear hcz12_4
  try clear hcz12_5
  try clear hcz12_6
  try clear hcz24_0
  try clear hcz24_1
  try clear hcz24_2
  try clear hcz24_3
  try clear hcz24_4
  try clear hcz24_5
  try clear hcz24_6
  try clear hcz32_0
  try clear hcz32_1
  try clear hcz32_2
  try clear hcz32_3
  try clear hcz32_4
  try clear hcz32_5
  try clear hcz32_6
  try clear hcz34_0
  try clear hcz34_1
  try clear hcz34_2
  try clear hcz34_3
  try clear hcz34_4
  try clear hcz34_5
  try clear hcz34_6
  try clear hcz38_0
  try clear hcz38_1
  try clear hcz38_2
  try clear hcz38_3
  try clear hcz38_4
  try clear hcz38_5
  try clear hcz38_6
  try clear hcz40_0
  try clear hcz40_1
  try clear hcz40_2
  try clear hcz40_3
  try clear hcz40_4
  try clear hcz40_5
  try clear hcz40_6
  try clear hcz46_0
  try clear hcz46_1
  try clear hcz58_0
  try clear hcz58_1
  try clear hcz71_0
  try clear hcz71_1
  try clear hcz71_2
  try clear hcz71_3
  try clear hcz71_4
  try clear hcz71_5
  try clear hcz71_6
  try clear hcz75_0
  try clear hcz75_1
  try clear hcz75_2
  try clear hcz75_3
  try clear hcz75_4
  try clear hcz75_5
  try clear hcz75_6
  try clear hcz79_0
  try clear hcz79_1
  try clear hcz92_0
  try clear hcz92_1
  try clear hcz92_2
  try clear hcz92_3
  try clear hcz92_4
  try clear hcz92_5
  try clear hcz92_6
  try clear hfz10_0
  try clear hfz10_1
  try clear hfz10_2
  try clear hfz10_3
  try clear hfz10_4
  try clear hfz10_5
  try clear hfz10_6
  try clear hfz12_0
  try clear hfz12_1
  try clear hfz12_2
  try clear hfz12_3
  try clear hfz12_4
  try clear hfz12_5
  try clear hfz12_6
  try clear hfz24_0
  try clear hfz24_1
  try clear hfz24_2
  try clear hfz24_3
  try clear hfz24_4
  try clear hfz24_5
  try clear hfz24_6
  try clear hfz32_0
  try clear hfz32_1
  try clear hfz32_2
  try clear hfz32_3
  try clear hfz32_4
  try clear hfz32_5
  try clear hfz32_6
  try clear hfz34_0
  try clear hfz34_1
  try clear hfz34_2
  try clear hfz34_3
  try clear hfz34_4
  try clear hfz34_5
  try clear hfz34_6
  try clear hfz38_0
  try clear hfz38_1
  try clear hfz38_2
  try clear hfz38_3
  try clear hfz38_4
  try clear hfz38_5
  try clear hfz38_6
  try clear hfz40_0
  try clear hfz40_1
  try clear hfz40_2
  try clear hfz40_3
  try clear hfz40_4
  try clear hfz40_5
  try clear hfz40_6
  try clear hfz46_0
  try clear hfz46_1
  try clear hfz58_0
  try clear hfz58_1
  try clear hfz71_0
  try clear hfz71_1
  try clear hfz71_2
  try clear hfz71_3
  try clear hfz71_4
  try clear hfz71_5
  try clear hfz71_6
  try clear hfz75_0
  try clear hfz75_1
  try clear hfz75_2
  try clear hfz75_3
  try clear hfz75_4
  try clear hfz75_5
  try clear hfz75_6
  try clear hfz79_0
  try clear hfz79_1
  try clear hfz92_0
  try clear hfz92_1
  try clear hfz92_2
  try clear hfz92_3
  try clear hfz92_4
  try clear hfz92_5
  try clear hfz92_6
  try clear hx51_0
  try clear hx713_0
  try clear p51
  try clear p713
  try clear q51
  try clear q713
  obtain ⟨kq, x1_5, HA, HJ5, HO_1, HO_677005, HO_677006, BK676, BK677, HB⟩ := hcut
  have hl1_5 := (Kd.V_reads' HO_1.out).1
  rw [hl1_5] at HO_1
  (try simp only [hl1_5])
  (try simp only [hl1_5] at BK676)
  (try simp only [hl1_5] at BK677)
  (try simp only [hl1_5] at HO_677005)
  (try simp only [hl1_5] at HO_677006)
  cases kq with
  | zero => exact absurd HA.out (by simp [selvedgelaw18_CylBack.j1])
  | succ kj5 =>
   have H := HA.out
   clear HA
   simp only [selvedgelaw18_CylBack.j1] at H
   replace H := Option.bind_eq_some_iff.mp H
   obtain ⟨⟨t729, t730, t731, t732, t733, t734, t737, t740⟩, A950, H⟩ := H
   try dsimp -implicitDefEqProofs -simprocs only at H
   have A95 := Aside0.mk A950
   clear A950
   by_cases c96 : t740 = 0
   ·rw [if_pos c96] at H
    have c96b0 : (t740 == 0) = true := beq_iff_eq.mpr c96
    have c96b1 : (t740 != 0) = false := bne_eq_false_iff_eq.mpr c96
    clear c96
    replace H := Option.bind_eq_some_iff.mp H
    obtain ⟨⟨t742, t745⟩, A970, H⟩ := H
    try dsimp -implicitDefEqProofs -simprocs only at H
    have A97 := Aside0.mk A970
    clear A970
    replace H := Option.bind_eq_some_iff.mp H
    obtain ⟨t746, A980, H⟩ := H
    try dsimp -implicitDefEqProofs -simprocs only at H
    have A98 := Aside0.mk A980
    clear A980
    by_cases c99 : t746 = true
    ·subst c99
     have H1 : (if t745 = 0 then (if (strOfNums t742).toList = (strOfNums x1_5).toList then (some true) else (none)) else (none)) = some r := by rw [if_pos rfl] at H; exact H
     clear H
     have H := H1
     clear H1
     by_cases c100 : t745 = 0
     ·rw [if_pos c100] at H
      have c100b0 : (t745 == 0) = true := beq_iff_eq.mpr c100
      have c100b1 : (t745 != 0) = false := bne_eq_false_iff_eq.mpr c100
      clear c100
      by_cases c101 : (strOfNums t742).toList = (strOfNums x1_5).toList
      ·rw [if_pos c101] at H
       have c101b0 : ((strOfNums t742).toList == (strOfNums x1_5).toList) = true := beq_iff_eq.mpr c101
       have c101b1 : ((strOfNums t742).toList != (strOfNums x1_5).toList) = false := bne_eq_false_iff_eq.mpr c101
       clear c101
       obtain rfl := Option.some.inj H
       go_wp2_with (first | ((with_reducible refine gate_callee (f := 32) rfl ?_); refine goesL_ (some 75) rfl rfl Try.func32 (by kernel_rfl) rfl #[.slice A1 x1_5.length c1] rfl (by simp only [List.map_toArray, List.map_cons, List.map_nil]; first | done | rfl) ?_; (with_reducible refine (cyl_Decode.calls _ _ x1_5 t729 t730 t731 t732 t733 t734 t737 t740 _ ?side1 ?side2 A95.out).mono ?_); (case side1 => repeat (first | exact (Kd.V_reads' HO_1.out).2.2 | (with_reducible refine Kd.C_alloc ?_ _) | (with_reducible refine Kd.C_drewN ?_ _) | (with_reducible refine Kd.C_drew ?_))); (case side2 => exact (Kd.V_reads' HO_1.out).2.1); rintro e w102 ⟨v735, v738, rfl, ho0, ho1, hb⟩; refine ⟨_, rfl, ?_⟩; have hone_v735 := Kd.R_one ho0; have hone_v738 := Kd.R_one ho1; replace HO_1 := Aside0.mk (Kd.V_mono (Kd.V_told (Kd.V_told (Kd.V_old (vk HO_1) hb) (Kd.R_base ho0)) (Kd.R_base ho1)) (fun _ h_ => h_.1)); have HO736 := Aside0.mk (Kd.R_lower (Kd.R_new' (Kd.R_new' (Kd.R_newM (M := fun k_ => (w.heap.size ≤ k_)) ho0 (below_size (bs HB (by simp [ag, GE676.out, GE677.out]))) (fun k_ h_ => h_)) (Kd.R_lt (rk HO_677005))) (Kd.R_lt (rk HO_677006))) (below_size (bs HB (by simp [ag, GE676.out, GE677.out])))); have HO739 := Aside0.mk (Kd.R_lower (Kd.R_new' (Kd.R_new' (Kd.R_newM (M := fun k_ => (w.heap.size ≤ k_)) ho1 (below_size (bs HB (by simp [ag, GE676.out, GE677.out]))) (fun k_ h_ => h_)) (Kd.R_lt (rk HO_677005))) (Kd.R_lt (rk HO_677006))) (below_size (bs HB (by simp [ag, GE676.out, GE677.out])))); replace HO_677005 := Aside0.mk (Kd.R_mono (Kd.R_told (Kd.R_told (Kd.R_old (rk HO_677005) hb) (Kd.R_base ho0)) (Kd.R_base ho1)) (fun _ h_ => h_.1)); replace HO_677006 := Aside0.mk (Kd.R_mono (Kd.R_told (Kd.R_told (Kd.R_old (rk HO_677006) hb) (Kd.R_base ho0)) (Kd.R_base ho1)) (fun _ h_ => h_.1)); replace BK676 := Aside0.mk (bb BK676 hb); replace BK677 := Aside0.mk (bb BK677 hb); replace HB := Aside0.mk (below_step (bs HB (by simp [ag, GE676.out, GE677.out])) hb); clear ho0 hb; (try clear ho1)) | ((with_reducible refine gate_dst (N := 14) rfl ?_); (try (refine gate_guard (by rfl) ?_; dsimp only)); refine box_event rfl (N := 14) rfl (cs := #[.int .i64 0, .int .i64 0, .int .i64 0, .int .i64 0, .int .i64 0, .slice none 0 0, .slice none 0 0]) (t := 42) (by first | (go_simp; done) | (go_simp; rfl)) ?_; intro gb741 hg w103 hbox hb; replace HO_1 := Aside0.mk (Kd.V_below (Kd.V_elderB (vk HO_1) gb741 (Nat.le_of_eq hg.symm)) hb); replace HO_677005 := Aside0.mk (Kd.R_below (rk HO_677005) hb); replace HO_677006 := Aside0.mk (Kd.R_below (rk HO_677006) hb); replace HO736 := Aside0.mk (Kd.R_below (rk HO736) hb); replace HO739 := Aside0.mk (Kd.R_below (rk HO739) hb); have BK741 := Aside0.mk (hbox); have GW741 := gl HB hg (by simp [ag, GE676.out, GE677.out]); have GE741 := gl HB hg (by simp [ag, GE676.out, GE677.out]); replace HB := Aside0.mk (below_step (bs HB (by simp [ag, GE676.out, GE677.out])) hb); have NB676_741 := nl BK676 hg; have NB741_676 := nt BK676 hg; replace BK676 := Aside0.mk (bb BK676 hb); have NB677_741 := nl BK677 hg; have NB741_677 := nt BK677 hg; replace BK677 := Aside0.mk (bb BK677 hb); clear hb hbox hg; have hnb104 := NB741_676.out; have hnc104 := NB676_741.out; have hnb105 := NB741_677.out; have hnc105 := NB677_741.out; obtain ⟨hcz106_0, hcz106_1, hcz106_2, hcz106_3, hcz106_4, hcz106_5, hcz106_6, hfz106_0, hfz106_1, hfz106_2, hfz106_3, hfz106_4, hfz106_5, hfz106_6⟩ := cf7 BK741; obtain ⟨Ao107, co107, eo107⟩ := Kd.R_slice HO736.out; subst eo107; obtain ⟨Ao108, co108, eo108⟩ := Kd.R_slice HO739.out; subst eo108) | ((with_reducible refine gate_callee (f := 30) rfl ?_); refine goesL_ (some 93) rfl rfl Try.func30 (by kernel_rfl) rfl #[.agg #[.int .i64 t729, .int .i64 t730, .int .i64 t731, .int .i64 t732, .int .i64 t733, .slice Ao107 t734.length co107, .slice Ao108 t737.length co108]] rfl (by (try simp only [List.map_toArray, List.map_cons, List.map_nil]); first | done | rfl | (simp only [List.length_drop, List.length_take]; rfl)) ?_; (with_reducible refine (cyl_Encode.calls t729 t730 t731 t732 t733 _ _ t734 _ _ t737 t742 t745 _ ?side1 ?side2 ?side3 ?side4 A97.out).mono ?_); (case side1 => refine (Kd.R_reads' (e := 3) (base := w.heap.size) (ok := fun k_ => ((((w.heap.size ≤ k_) ∧ some k_ ≠ (.slice Ao108 t737.length co108 : Value).ownBlock) ∧ some k_ ≠ (.slice Ao13 t683.length co13 : Value).ownBlock) ∧ some k_ ≠ (.slice Ao14 t686.length co14 : Value).ownBlock)) (n := t734.length) (c := co107) ?_).2.2; exact (by (with_reducible repeat (first | apply Kd.R_alloc | apply Kd.R_drewN | apply Kd.R_drew)); exact (Kd.R_mono (Kd.R_far (p := ⟨gb741, 6, none⟩) (Kd.R_far (p := ⟨gb741, 5, none⟩) (Kd.R_far (p := ⟨gb741, 4, none⟩) (Kd.R_far (p := ⟨gb741, 3, none⟩) (Kd.R_far (p := ⟨gb741, 2, none⟩) (Kd.R_far (p := ⟨gb741, 1, none⟩) (Kd.R_far (p := ⟨gb741, 0, none⟩) (Kd.R_types HO736.out BK741.out (by decide)) (fun _ hk => hk.2) (.int .i64 t729)) (fun _ hk => hk.2) (.int .i64 t730)) (fun _ hk => hk.2) (.int .i64 t731)) (fun _ hk => hk.2) (.int .i64 t732)) (fun _ hk => hk.2) (.int .i64 t733)) (fun _ hk => hk.2) (.slice Ao107 t734.length co107)) (fun _ hk => hk.2) (.slice Ao108 t737.length co108)) (fun _ h_ => h_.1)))); (case side2 => exact (Kd.R_reads' HO736.out).2.1); (case side3 => refine (Kd.R_reads' (e := 3) (base := w.heap.size) (ok := fun k_ => ((((w.heap.size ≤ k_) ∧ some k_ ≠ (.slice Ao107 t734.length co107 : Value).ownBlock) ∧ some k_ ≠ (.slice Ao13 t683.length co13 : Value).ownBlock) ∧ some k_ ≠ (.slice Ao14 t686.length co14 : Value).ownBlock)) (n := t737.length) (c := co108) ?_).2.2; exact (by (with_reducible repeat (first | apply Kd.R_alloc | apply Kd.R_drewN | apply Kd.R_drew)); exact (Kd.R_mono (Kd.R_far (p := ⟨gb741, 6, none⟩) (Kd.R_far (p := ⟨gb741, 5, none⟩) (Kd.R_far (p := ⟨gb741, 4, none⟩) (Kd.R_far (p := ⟨gb741, 3, none⟩) (Kd.R_far (p := ⟨gb741, 2, none⟩) (Kd.R_far (p := ⟨gb741, 1, none⟩) (Kd.R_far (p := ⟨gb741, 0, none⟩) (Kd.R_types HO739.out BK741.out (by decide)) (fun _ hk => hk.2) (.int .i64 t729)) (fun _ hk => hk.2) (.int .i64 t730)) (fun _ hk => hk.2) (.int .i64 t731)) (fun _ hk => hk.2) (.int .i64 t732)) (fun _ hk => hk.2) (.int .i64 t733)) (fun _ hk => hk.2) (.slice Ao107 t734.length co107)) (fun _ hk => hk.2) (.slice Ao108 t737.length co108)) (fun _ h_ => h_.1)))); (case side4 => exact (Kd.R_reads' HO739.out).2.1); rintro e w109 ⟨v743, rfl, ho0, hb⟩; refine ⟨_, rfl, ?_⟩; have hone_v743 := Kd.R_one ho0; replace HO_1 := Aside0.mk (Kd.V_elder' (by (with_reducible repeat (first | apply Kd.V_alloc | apply Kd.V_drewN | apply Kd.V_drew)); exact (Kd.V_mono (Kd.V_far (p := ⟨gb741, 6, none⟩) (Kd.V_far (p := ⟨gb741, 5, none⟩) (Kd.V_far (p := ⟨gb741, 4, none⟩) (Kd.V_far (p := ⟨gb741, 3, none⟩) (Kd.V_far (p := ⟨gb741, 2, none⟩) (Kd.V_far (p := ⟨gb741, 1, none⟩) (Kd.V_far (p := ⟨gb741, 0, none⟩) (Kd.V_mono HO_1.out (fun k_ hk => (⟨hk, hk.2⟩ : _ ∧ k_ ≠ gb741))) (fun _ hk => hk.2) (.int .i64 t729)) (fun _ hk => hk.2) (.int .i64 t730)) (fun _ hk => hk.2) (.int .i64 t731)) (fun _ hk => hk.2) (.int .i64 t732)) (fun _ hk => hk.2) (.int .i64 t733)) (fun _ hk => hk.2) (.slice Ao107 t734.length co107)) (fun _ hk => hk.2) (.slice Ao108 t737.length co108)) (fun _ h_ => h_.1))) (Kd.R_base ho0) hb); replace HO_677005 := Aside0.mk (Kd.R_below (by (with_reducible repeat (first | apply Kd.R_alloc | apply Kd.R_drewN | apply Kd.R_drew)); exact (Kd.R_mono (Kd.R_far (p := ⟨gb741, 6, none⟩) (Kd.R_far (p := ⟨gb741, 5, none⟩) (Kd.R_far (p := ⟨gb741, 4, none⟩) (Kd.R_far (p := ⟨gb741, 3, none⟩) (Kd.R_far (p := ⟨gb741, 2, none⟩) (Kd.R_far (p := ⟨gb741, 1, none⟩) (Kd.R_far (p := ⟨gb741, 0, none⟩) (Kd.R_types HO_677005.out BK741.out (by decide)) (fun _ hk => hk.2) (.int .i64 t729)) (fun _ hk => hk.2) (.int .i64 t730)) (fun _ hk => hk.2) (.int .i64 t731)) (fun _ hk => hk.2) (.int .i64 t732)) (fun _ hk => hk.2) (.int .i64 t733)) (fun _ hk => hk.2) (.slice Ao107 t734.length co107)) (fun _ hk => hk.2) (.slice Ao108 t737.length co108)) (fun _ h_ => h_.1))) hb); replace HO_677006 := Aside0.mk (Kd.R_below (by (with_reducible repeat (first | apply Kd.R_alloc | apply Kd.R_drewN | apply Kd.R_drew)); exact (Kd.R_mono (Kd.R_far (p := ⟨gb741, 6, none⟩) (Kd.R_far (p := ⟨gb741, 5, none⟩) (Kd.R_far (p := ⟨gb741, 4, none⟩) (Kd.R_far (p := ⟨gb741, 3, none⟩) (Kd.R_far (p := ⟨gb741, 2, none⟩) (Kd.R_far (p := ⟨gb741, 1, none⟩) (Kd.R_far (p := ⟨gb741, 0, none⟩) (Kd.R_types HO_677006.out BK741.out (by decide)) (fun _ hk => hk.2) (.int .i64 t729)) (fun _ hk => hk.2) (.int .i64 t730)) (fun _ hk => hk.2) (.int .i64 t731)) (fun _ hk => hk.2) (.int .i64 t732)) (fun _ hk => hk.2) (.int .i64 t733)) (fun _ hk => hk.2) (.slice Ao107 t734.length co107)) (fun _ hk => hk.2) (.slice Ao108 t737.length co108)) (fun _ h_ => h_.1))) hb); replace HO736 := Aside0.mk (Kd.R_below (by (with_reducible repeat (first | apply Kd.R_alloc | apply Kd.R_drewN | apply Kd.R_drew)); exact (Kd.R_mono (Kd.R_far (p := ⟨gb741, 6, none⟩) (Kd.R_far (p := ⟨gb741, 5, none⟩) (Kd.R_far (p := ⟨gb741, 4, none⟩) (Kd.R_far (p := ⟨gb741, 3, none⟩) (Kd.R_far (p := ⟨gb741, 2, none⟩) (Kd.R_far (p := ⟨gb741, 1, none⟩) (Kd.R_far (p := ⟨gb741, 0, none⟩) (Kd.R_types HO736.out BK741.out (by decide)) (fun _ hk => hk.2) (.int .i64 t729)) (fun _ hk => hk.2) (.int .i64 t730)) (fun _ hk => hk.2) (.int .i64 t731)) (fun _ hk => hk.2) (.int .i64 t732)) (fun _ hk => hk.2) (.int .i64 t733)) (fun _ hk => hk.2) (.slice Ao107 t734.length co107)) (fun _ hk => hk.2) (.slice Ao108 t737.length co108)) (fun _ h_ => h_.1))) hb); replace HO739 := Aside0.mk (Kd.R_below (by (with_reducible repeat (first | apply Kd.R_alloc | apply Kd.R_drewN | apply Kd.R_drew)); exact (Kd.R_mono (Kd.R_far (p := ⟨gb741, 6, none⟩) (Kd.R_far (p := ⟨gb741, 5, none⟩) (Kd.R_far (p := ⟨gb741, 4, none⟩) (Kd.R_far (p := ⟨gb741, 3, none⟩) (Kd.R_far (p := ⟨gb741, 2, none⟩) (Kd.R_far (p := ⟨gb741, 1, none⟩) (Kd.R_far (p := ⟨gb741, 0, none⟩) (Kd.R_types HO739.out BK741.out (by decide)) (fun _ hk => hk.2) (.int .i64 t729)) (fun _ hk => hk.2) (.int .i64 t730)) (fun _ hk => hk.2) (.int .i64 t731)) (fun _ hk => hk.2) (.int .i64 t732)) (fun _ hk => hk.2) (.int .i64 t733)) (fun _ hk => hk.2) (.slice Ao107 t734.length co107)) (fun _ hk => hk.2) (.slice Ao108 t737.length co108)) (fun _ h_ => h_.1))) hb); have HO744 := Aside0.mk (Kd.R_lower (Kd.R_newM (M := fun k_ => (w.heap.size ≤ k_)) ho0 (below_size (bs HB (by simp [ag, GE676.out, GE677.out, GE741.out]))) (fun k_ h_ => h_)) (below_size (bs HB (by simp [ag, GE676.out, GE677.out, GE741.out])))); replace BK676 := Aside0.mk (blk_below (g := gb676) (o := .cells #[.int .i64 t678, .int .i64 t679, .int .i64 t680, .int .i64 t681, .int .i64 t682, .slice Ao13 t683.length co13, .slice Ao14 t686.length co14] 42 (0, 0)) (by (with_reducible repeat (first | refine blk_drewN ?_ _ | refine blk_drew ?_ | refine blk_alloc ?_ _)); refine blk_far ?_ NB676_741.out _; (with_reducible repeat (first | refine blk_drewN ?_ _ | refine blk_drew ?_ | refine blk_alloc ?_ _)); refine blk_far ?_ NB676_741.out _; (with_reducible repeat (first | refine blk_drewN ?_ _ | refine blk_drew ?_ | refine blk_alloc ?_ _)); refine blk_far ?_ NB676_741.out _; (with_reducible repeat (first | refine blk_drewN ?_ _ | refine blk_drew ?_ | refine blk_alloc ?_ _)); refine blk_far ?_ NB676_741.out _; (with_reducible repeat (first | refine blk_drewN ?_ _ | refine blk_drew ?_ | refine blk_alloc ?_ _)); refine blk_far ?_ NB676_741.out _; (with_reducible repeat (first | refine blk_drewN ?_ _ | refine blk_drew ?_ | refine blk_alloc ?_ _)); refine blk_far ?_ NB676_741.out _; (with_reducible repeat (first | refine blk_drewN ?_ _ | refine blk_drew ?_ | refine blk_alloc ?_ _)); refine blk_far ?_ NB676_741.out _; (with_reducible repeat (first | refine blk_drewN ?_ _ | refine blk_drew ?_ | refine blk_alloc ?_ _)); exact BK676.out) hb); replace BK677 := Aside0.mk (blk_below (g := gb677) (o := .cells #[.int .u8 a2_0, .int .u8 a2_1] 60 (0, 0)) (by (with_reducible repeat (first | refine blk_drewN ?_ _ | refine blk_drew ?_ | refine blk_alloc ?_ _)); refine blk_far ?_ NB677_741.out _; (with_reducible repeat (first | refine blk_drewN ?_ _ | refine blk_drew ?_ | refine blk_alloc ?_ _)); refine blk_far ?_ NB677_741.out _; (with_reducible repeat (first | refine blk_drewN ?_ _ | refine blk_drew ?_ | refine blk_alloc ?_ _)); refine blk_far ?_ NB677_741.out _; (with_reducible repeat (first | refine blk_drewN ?_ _ | refine blk_drew ?_ | refine blk_alloc ?_ _)); refine blk_far ?_ NB677_741.out _; (with_reducible repeat (first | refine blk_drewN ?_ _ | refine blk_drew ?_ | refine blk_alloc ?_ _)); refine blk_far ?_ NB677_741.out _; (with_reducible repeat (first | refine blk_drewN ?_ _ | refine blk_drew ?_ | refine blk_alloc ?_ _)); refine blk_far ?_ NB677_741.out _; (with_reducible repeat (first | refine blk_drewN ?_ _ | refine blk_drew ?_ | refine blk_alloc ?_ _)); refine blk_far ?_ NB677_741.out _; (with_reducible repeat (first | refine blk_drewN ?_ _ | refine blk_drew ?_ | refine blk_alloc ?_ _)); exact BK677.out) hb); replace BK741 := Aside0.mk (blk_below (g := gb741) (o := .cells #[.int .i64 t729, .int .i64 t730, .int .i64 t731, .int .i64 t732, .int .i64 t733, .slice Ao107 t734.length co107, .slice Ao108 t737.length co108] 42 (0, 0)) (by (with_reducible repeat (first | refine blk_drewN ?_ _ | refine blk_drew ?_ | refine blk_alloc ?_ _)); refine blk_put (cs := #[.int .i64 t729, .int .i64 t730, .int .i64 t731, .int .i64 t732, .int .i64 t733, .slice Ao107 t734.length co107, .slice none 0 0]) ?_ 6 _ rfl; (with_reducible repeat (first | refine blk_drewN ?_ _ | refine blk_drew ?_ | refine blk_alloc ?_ _)); refine blk_put (cs := #[.int .i64 t729, .int .i64 t730, .int .i64 t731, .int .i64 t732, .int .i64 t733, .slice none 0 0, .slice none 0 0]) ?_ 5 _ rfl; (with_reducible repeat (first | refine blk_drewN ?_ _ | refine blk_drew ?_ | refine blk_alloc ?_ _)); refine blk_put (cs := #[.int .i64 t729, .int .i64 t730, .int .i64 t731, .int .i64 t732, .int .i64 0, .slice none 0 0, .slice none 0 0]) ?_ 4 _ rfl; (with_reducible repeat (first | refine blk_drewN ?_ _ | refine blk_drew ?_ | refine blk_alloc ?_ _)); refine blk_put (cs := #[.int .i64 t729, .int .i64 t730, .int .i64 t731, .int .i64 0, .int .i64 0, .slice none 0 0, .slice none 0 0]) ?_ 3 _ rfl; (with_reducible repeat (first | refine blk_drewN ?_ _ | refine blk_drew ?_ | refine blk_alloc ?_ _)); refine blk_put (cs := #[.int .i64 t729, .int .i64 t730, .int .i64 0, .int .i64 0, .int .i64 0, .slice none 0 0, .slice none 0 0]) ?_ 2 _ rfl; (with_reducible repeat (first | refine blk_drewN ?_ _ | refine blk_drew ?_ | refine blk_alloc ?_ _)); refine blk_put (cs := #[.int .i64 t729, .int .i64 0, .int .i64 0, .int .i64 0, .int .i64 0, .slice none 0 0, .slice none 0 0]) ?_ 1 _ rfl; (with_reducible repeat (first | refine blk_drewN ?_ _ | refine blk_drew ?_ | refine blk_alloc ?_ _)); refine blk_put (cs := #[.int .i64 0, .int .i64 0, .int .i64 0, .int .i64 0, .int .i64 0, .slice none 0 0, .slice none 0 0]) ?_ 0 _ rfl; (with_reducible repeat (first | refine blk_drewN ?_ _ | refine blk_drew ?_ | refine blk_alloc ?_ _)); exact BK741.out) hb); replace HB := Aside0.mk (below_step (bs HB (by simp [ag, GE676.out, GE677.out, GE741.out])) hb); clear ho0 hb) | ((with_reducible refine gate_callee (f := 17) rfl ?_); refine goesL_ (some 96) rfl rfl Try.func17 (by kernel_rfl) rfl #[] rfl (by simp only [List.map_toArray, List.map_cons, List.map_nil]; first | done | rfl) ?_; (with_reducible refine (selvedgelaw18_live.calls  true _ A98.out).mono ?_); rintro e w110 ⟨rfl, hb⟩; refine ⟨_, rfl, ?_⟩; replace HO_1 := Aside0.mk (Kd.V_below (vk HO_1) hb); replace HO_677005 := Aside0.mk (Kd.R_below (rk HO_677005) hb); replace HO_677006 := Aside0.mk (Kd.R_below (rk HO_677006) hb); replace HO736 := Aside0.mk (Kd.R_below (rk HO736) hb); replace HO739 := Aside0.mk (Kd.R_below (rk HO739) hb); replace HO744 := Aside0.mk (Kd.R_below (rk HO744) hb); replace BK676 := Aside0.mk (bb BK676 hb); replace BK677 := Aside0.mk (bb BK677 hb); replace BK741 := Aside0.mk (bb BK741 hb); replace HB := Aside0.mk (below_step (bs HB (by simp [ag, GE676.out, GE677.out, GE741.out])) hb); (try clear hb); (try clear hb2); (try clear hk); (try clear hi); have hcv111 := own_string (P := Try.prog) Try.underlying35 Try.underlying5 Try.underlying9 (Kd.own_of_R HO744.out); have hcw111 := fun m_ : Nat => own_string (P := Try.prog) Try.underlying35 Try.underlying5 Try.underlying9 (Kd.own_of_R (Kd.R_drewN HO744.out m_)); have hcv112 := fun c_ : Nat => Kd.C_string (c := c_) (P := Try.prog) Try.underlying35 Try.underlying5 Try.underlying9 (Kd.V_reads' HO_1.out).2.2; have hcw112 := fun (m_ c_ : Nat) => Kd.C_string (c := c_) (P := Try.prog) Try.underlying35 Try.underlying5 Try.underlying9 (Kd.C_drewN (Kd.V_reads' HO_1.out).2.2 m_)))
       go_ret
       exact ⟨by first | rfl | (simp [errW_none, errW_some] <;> rfl) | (simp [*, errW_none, errW_some] <;> rfl), bs HB (by simp [ag, GE676.out, GE677.out, GE741.out])⟩
      ·rw [if_neg c101] at H
       exact absurd H (by simp)
     ·rw [if_neg c100] at H
      exact absurd H (by simp)
    ·replace c99 := Bool.eq_false_iff.mpr c99
     subst c99
     have H1 : (none) = some r := by rw [if_neg (show ¬ (false = true) by decide)] at H; exact H
     clear H
     have H := H1
     clear H1
     exact absurd H (by simp)
   ·rw [if_neg c96] at H
    have c96b0 : (t740 == 0) = false := beq_eq_false_iff_ne.mpr c96
    have c96b1 : (t740 != 0) = true := bne_iff_ne.mpr c96
    replace H := Option.bind_eq_some_iff.mp H
    obtain ⟨t747, A1130, H⟩ := H
    try dsimp -implicitDefEqProofs -simprocs only at H
    have A113 := Aside0.mk A1130
    clear A1130
    by_cases c114 : t747 = true
    ·subst c114
     have H1 : (if t740 = 3 then (if (t734.length : Int) = 0 then (some true) else (none)) else (none)) = some r := by rw [if_pos rfl] at H; exact H
     clear H
     have H := H1
     clear H1
     by_cases c115 : t740 = 3
     ·rw [if_pos c115] at H
      have c115b0 : (t740 == 3) = true := beq_iff_eq.mpr c115
      have c115b1 : (t740 != 3) = false := bne_eq_false_iff_eq.mpr c115
      clear c115
      by_cases c116 : (t734.length : Int) = 0
      ·rw [if_pos c116] at H
       have c116b0 : ((t734.length : Int) == 0) = true := beq_iff_eq.mpr c116
       have c116b1 : ((t734.length : Int) != 0) = false := bne_eq_false_iff_eq.mpr c116
       clear c116
       obtain rfl := Option.some.inj H
       go_wp2_with (first | ((with_reducible refine gate_callee (f := 32) rfl ?_); refine goesL_ (some 75) rfl rfl Try.func32 (by kernel_rfl) rfl #[.slice A1 x1_5.length c1] rfl (by simp only [List.map_toArray, List.map_cons, List.map_nil]; first | done | rfl) ?_; (with_reducible refine (cyl_Decode.calls _ _ x1_5 t729 t730 t731 t732 t733 t734 t737 t740 _ ?side1 ?side2 A95.out).mono ?_); (case side1 => repeat (first | exact (Kd.V_reads' HO_1.out).2.2 | (with_reducible refine Kd.C_alloc ?_ _) | (with_reducible refine Kd.C_drewN ?_ _) | (with_reducible refine Kd.C_drew ?_))); (case side2 => exact (Kd.V_reads' HO_1.out).2.1); rintro e w117 ⟨v735, v738, rfl, ho0, ho1, hb⟩; refine ⟨_, rfl, ?_⟩; have hone_v735 := Kd.R_one ho0; have hone_v738 := Kd.R_one ho1; replace HO_1 := Aside0.mk (Kd.V_mono (Kd.V_told (Kd.V_told (Kd.V_old (vk HO_1) hb) (Kd.R_base ho0)) (Kd.R_base ho1)) (fun _ h_ => h_.1)); have HO736 := Aside0.mk (Kd.R_lower (Kd.R_new' (Kd.R_new' (Kd.R_newM (M := fun k_ => (w.heap.size ≤ k_)) ho0 (below_size (bs HB (by simp [ag, GE676.out, GE677.out]))) (fun k_ h_ => h_)) (Kd.R_lt (rk HO_677005))) (Kd.R_lt (rk HO_677006))) (below_size (bs HB (by simp [ag, GE676.out, GE677.out])))); have HO739 := Aside0.mk (Kd.R_lower (Kd.R_new' (Kd.R_new' (Kd.R_newM (M := fun k_ => (w.heap.size ≤ k_)) ho1 (below_size (bs HB (by simp [ag, GE676.out, GE677.out]))) (fun k_ h_ => h_)) (Kd.R_lt (rk HO_677005))) (Kd.R_lt (rk HO_677006))) (below_size (bs HB (by simp [ag, GE676.out, GE677.out])))); replace HO_677005 := Aside0.mk (Kd.R_mono (Kd.R_told (Kd.R_told (Kd.R_old (rk HO_677005) hb) (Kd.R_base ho0)) (Kd.R_base ho1)) (fun _ h_ => h_.1)); replace HO_677006 := Aside0.mk (Kd.R_mono (Kd.R_told (Kd.R_told (Kd.R_old (rk HO_677006) hb) (Kd.R_base ho0)) (Kd.R_base ho1)) (fun _ h_ => h_.1)); replace BK676 := Aside0.mk (bb BK676 hb); replace BK677 := Aside0.mk (bb BK677 hb); replace HB := Aside0.mk (below_step (bs HB (by simp [ag, GE676.out, GE677.out])) hb); clear ho0 hb; (try clear ho1)) | ((with_reducible refine gate_dst (N := 14) rfl ?_); (try (refine gate_guard (by rfl) ?_; dsimp only)); refine box_event rfl (N := 14) rfl (cs := #[.int .i64 0, .int .i64 0, .int .i64 0, .int .i64 0, .int .i64 0, .slice none 0 0, .slice none 0 0]) (t := 42) (by first | (go_simp; done) | (go_simp; rfl)) ?_; intro gb741 hg w118 hbox hb; replace HO_1 := Aside0.mk (Kd.V_below (Kd.V_elderB (vk HO_1) gb741 (Nat.le_of_eq hg.symm)) hb); replace HO_677005 := Aside0.mk (Kd.R_below (rk HO_677005) hb); replace HO_677006 := Aside0.mk (Kd.R_below (rk HO_677006) hb); replace HO736 := Aside0.mk (Kd.R_below (rk HO736) hb); replace HO739 := Aside0.mk (Kd.R_below (rk HO739) hb); have BK741 := Aside0.mk (hbox); have GW741 := gl HB hg (by simp [ag, GE676.out, GE677.out]); have GE741 := gl HB hg (by simp [ag, GE676.out, GE677.out]); replace HB := Aside0.mk (below_step (bs HB (by simp [ag, GE676.out, GE677.out])) hb); have NB676_741 := nl BK676 hg; have NB741_676 := nt BK676 hg; replace BK676 := Aside0.mk (bb BK676 hb); have NB677_741 := nl BK677 hg; have NB741_677 := nt BK677 hg; replace BK677 := Aside0.mk (bb BK677 hb); clear hb hbox hg; have hnb119 := NB741_676.out; have hnc119 := NB676_741.out; have hnb120 := NB741_677.out; have hnc120 := NB677_741.out; obtain ⟨hcz121_0, hcz121_1, hcz121_2, hcz121_3, hcz121_4, hcz121_5, hcz121_6, hfz121_0, hfz121_1, hfz121_2, hfz121_3, hfz121_4, hfz121_5, hfz121_6⟩ := cf7 BK741; obtain ⟨Ao122, co122, eo122⟩ := Kd.R_slice HO736.out; subst eo122; obtain ⟨Ao123, co123, eo123⟩ := Kd.R_slice HO739.out; subst eo123) | ((with_reducible refine gate_callee (f := 17) rfl ?_); refine goesL_ (some 80) rfl rfl Try.func17 (by kernel_rfl) rfl #[] rfl (by simp only [List.map_toArray, List.map_cons, List.map_nil]; first | done | rfl) ?_; (with_reducible refine (selvedgelaw18_live.calls  true _ A113.out).mono ?_); rintro e w124 ⟨rfl, hb⟩; refine ⟨_, rfl, ?_⟩; replace HO_1 := Aside0.mk (Kd.V_below (by (with_reducible repeat (first | apply Kd.V_alloc | apply Kd.V_drewN | apply Kd.V_drew)); exact (Kd.V_mono (Kd.V_far (p := ⟨gb741, 6, none⟩) (Kd.V_far (p := ⟨gb741, 5, none⟩) (Kd.V_far (p := ⟨gb741, 4, none⟩) (Kd.V_far (p := ⟨gb741, 3, none⟩) (Kd.V_far (p := ⟨gb741, 2, none⟩) (Kd.V_far (p := ⟨gb741, 1, none⟩) (Kd.V_far (p := ⟨gb741, 0, none⟩) (Kd.V_mono HO_1.out (fun k_ hk => (⟨hk, hk.2⟩ : _ ∧ k_ ≠ gb741))) (fun _ hk => hk.2) (.int .i64 t729)) (fun _ hk => hk.2) (.int .i64 t730)) (fun _ hk => hk.2) (.int .i64 t731)) (fun _ hk => hk.2) (.int .i64 t732)) (fun _ hk => hk.2) (.int .i64 t733)) (fun _ hk => hk.2) (.slice Ao122 t734.length co122)) (fun _ hk => hk.2) (.slice Ao123 t737.length co123)) (fun _ h_ => h_.1))) hb); replace HO_677005 := Aside0.mk (Kd.R_below (by (with_reducible repeat (first | apply Kd.R_alloc | apply Kd.R_drewN | apply Kd.R_drew)); exact (Kd.R_mono (Kd.R_far (p := ⟨gb741, 6, none⟩) (Kd.R_far (p := ⟨gb741, 5, none⟩) (Kd.R_far (p := ⟨gb741, 4, none⟩) (Kd.R_far (p := ⟨gb741, 3, none⟩) (Kd.R_far (p := ⟨gb741, 2, none⟩) (Kd.R_far (p := ⟨gb741, 1, none⟩) (Kd.R_far (p := ⟨gb741, 0, none⟩) (Kd.R_types HO_677005.out BK741.out (by decide)) (fun _ hk => hk.2) (.int .i64 t729)) (fun _ hk => hk.2) (.int .i64 t730)) (fun _ hk => hk.2) (.int .i64 t731)) (fun _ hk => hk.2) (.int .i64 t732)) (fun _ hk => hk.2) (.int .i64 t733)) (fun _ hk => hk.2) (.slice Ao122 t734.length co122)) (fun _ hk => hk.2) (.slice Ao123 t737.length co123)) (fun _ h_ => h_.1))) hb); replace HO_677006 := Aside0.mk (Kd.R_below (by (with_reducible repeat (first | apply Kd.R_alloc | apply Kd.R_drewN | apply Kd.R_drew)); exact (Kd.R_mono (Kd.R_far (p := ⟨gb741, 6, none⟩) (Kd.R_far (p := ⟨gb741, 5, none⟩) (Kd.R_far (p := ⟨gb741, 4, none⟩) (Kd.R_far (p := ⟨gb741, 3, none⟩) (Kd.R_far (p := ⟨gb741, 2, none⟩) (Kd.R_far (p := ⟨gb741, 1, none⟩) (Kd.R_far (p := ⟨gb741, 0, none⟩) (Kd.R_types HO_677006.out BK741.out (by decide)) (fun _ hk => hk.2) (.int .i64 t729)) (fun _ hk => hk.2) (.int .i64 t730)) (fun _ hk => hk.2) (.int .i64 t731)) (fun _ hk => hk.2) (.int .i64 t732)) (fun _ hk => hk.2) (.int .i64 t733)) (fun _ hk => hk.2) (.slice Ao122 t734.length co122)) (fun _ hk => hk.2) (.slice Ao123 t737.length co123)) (fun _ h_ => h_.1))) hb); replace HO736 := Aside0.mk (Kd.R_below (by (with_reducible repeat (first | apply Kd.R_alloc | apply Kd.R_drewN | apply Kd.R_drew)); exact (Kd.R_mono (Kd.R_far (p := ⟨gb741, 6, none⟩) (Kd.R_far (p := ⟨gb741, 5, none⟩) (Kd.R_far (p := ⟨gb741, 4, none⟩) (Kd.R_far (p := ⟨gb741, 3, none⟩) (Kd.R_far (p := ⟨gb741, 2, none⟩) (Kd.R_far (p := ⟨gb741, 1, none⟩) (Kd.R_far (p := ⟨gb741, 0, none⟩) (Kd.R_types HO736.out BK741.out (by decide)) (fun _ hk => hk.2) (.int .i64 t729)) (fun _ hk => hk.2) (.int .i64 t730)) (fun _ hk => hk.2) (.int .i64 t731)) (fun _ hk => hk.2) (.int .i64 t732)) (fun _ hk => hk.2) (.int .i64 t733)) (fun _ hk => hk.2) (.slice Ao122 t734.length co122)) (fun _ hk => hk.2) (.slice Ao123 t737.length co123)) (fun _ h_ => h_.1))) hb); replace HO739 := Aside0.mk (Kd.R_below (by (with_reducible repeat (first | apply Kd.R_alloc | apply Kd.R_drewN | apply Kd.R_drew)); exact (Kd.R_mono (Kd.R_far (p := ⟨gb741, 6, none⟩) (Kd.R_far (p := ⟨gb741, 5, none⟩) (Kd.R_far (p := ⟨gb741, 4, none⟩) (Kd.R_far (p := ⟨gb741, 3, none⟩) (Kd.R_far (p := ⟨gb741, 2, none⟩) (Kd.R_far (p := ⟨gb741, 1, none⟩) (Kd.R_far (p := ⟨gb741, 0, none⟩) (Kd.R_types HO739.out BK741.out (by decide)) (fun _ hk => hk.2) (.int .i64 t729)) (fun _ hk => hk.2) (.int .i64 t730)) (fun _ hk => hk.2) (.int .i64 t731)) (fun _ hk => hk.2) (.int .i64 t732)) (fun _ hk => hk.2) (.int .i64 t733)) (fun _ hk => hk.2) (.slice Ao122 t734.length co122)) (fun _ hk => hk.2) (.slice Ao123 t737.length co123)) (fun _ h_ => h_.1))) hb); replace BK676 := Aside0.mk (blk_below (g := gb676) (o := .cells #[.int .i64 t678, .int .i64 t679, .int .i64 t680, .int .i64 t681, .int .i64 t682, .slice Ao13 t683.length co13, .slice Ao14 t686.length co14] 42 (0, 0)) (by (with_reducible repeat (first | refine blk_drewN ?_ _ | refine blk_drew ?_ | refine blk_alloc ?_ _)); refine blk_far ?_ NB676_741.out _; (with_reducible repeat (first | refine blk_drewN ?_ _ | refine blk_drew ?_ | refine blk_alloc ?_ _)); refine blk_far ?_ NB676_741.out _; (with_reducible repeat (first | refine blk_drewN ?_ _ | refine blk_drew ?_ | refine blk_alloc ?_ _)); refine blk_far ?_ NB676_741.out _; (with_reducible repeat (first | refine blk_drewN ?_ _ | refine blk_drew ?_ | refine blk_alloc ?_ _)); refine blk_far ?_ NB676_741.out _; (with_reducible repeat (first | refine blk_drewN ?_ _ | refine blk_drew ?_ | refine blk_alloc ?_ _)); refine blk_far ?_ NB676_741.out _; (with_reducible repeat (first | refine blk_drewN ?_ _ | refine blk_drew ?_ | refine blk_alloc ?_ _)); refine blk_far ?_ NB676_741.out _; (with_reducible repeat (first | refine blk_drewN ?_ _ | refine blk_drew ?_ | refine blk_alloc ?_ _)); refine blk_far ?_ NB676_741.out _; (with_reducible repeat (first | refine blk_drewN ?_ _ | refine blk_drew ?_ | refine blk_alloc ?_ _)); exact BK676.out) hb); replace BK677 := Aside0.mk (blk_below (g := gb677) (o := .cells #[.int .u8 a2_0, .int .u8 a2_1] 60 (0, 0)) (by (with_reducible repeat (first | refine blk_drewN ?_ _ | refine blk_drew ?_ | refine blk_alloc ?_ _)); refine blk_far ?_ NB677_741.out _; (with_reducible repeat (first | refine blk_drewN ?_ _ | refine blk_drew ?_ | refine blk_alloc ?_ _)); refine blk_far ?_ NB677_741.out _; (with_reducible repeat (first | refine blk_drewN ?_ _ | refine blk_drew ?_ | refine blk_alloc ?_ _)); refine blk_far ?_ NB677_741.out _; (with_reducible repeat (first | refine blk_drewN ?_ _ | refine blk_drew ?_ | refine blk_alloc ?_ _)); refine blk_far ?_ NB677_741.out _; (with_reducible repeat (first | refine blk_drewN ?_ _ | refine blk_drew ?_ | refine blk_alloc ?_ _)); refine blk_far ?_ NB677_741.out _; (with_reducible repeat (first | refine blk_drewN ?_ _ | refine blk_drew ?_ | refine blk_alloc ?_ _)); refine blk_far ?_ NB677_741.out _; (with_reducible repeat (first | refine blk_drewN ?_ _ | refine blk_drew ?_ | refine blk_alloc ?_ _)); refine blk_far ?_ NB677_741.out _; (with_reducible repeat (first | refine blk_drewN ?_ _ | refine blk_drew ?_ | refine blk_alloc ?_ _)); exact BK677.out) hb); replace BK741 := Aside0.mk (blk_below (g := gb741) (o := .cells #[.int .i64 t729, .int .i64 t730, .int .i64 t731, .int .i64 t732, .int .i64 t733, .slice Ao122 t734.length co122, .slice Ao123 t737.length co123] 42 (0, 0)) (by (with_reducible repeat (first | refine blk_drewN ?_ _ | refine blk_drew ?_ | refine blk_alloc ?_ _)); refine blk_put (cs := #[.int .i64 t729, .int .i64 t730, .int .i64 t731, .int .i64 t732, .int .i64 t733, .slice Ao122 t734.length co122, .slice none 0 0]) ?_ 6 _ rfl; (with_reducible repeat (first | refine blk_drewN ?_ _ | refine blk_drew ?_ | refine blk_alloc ?_ _)); refine blk_put (cs := #[.int .i64 t729, .int .i64 t730, .int .i64 t731, .int .i64 t732, .int .i64 t733, .slice none 0 0, .slice none 0 0]) ?_ 5 _ rfl; (with_reducible repeat (first | refine blk_drewN ?_ _ | refine blk_drew ?_ | refine blk_alloc ?_ _)); refine blk_put (cs := #[.int .i64 t729, .int .i64 t730, .int .i64 t731, .int .i64 t732, .int .i64 0, .slice none 0 0, .slice none 0 0]) ?_ 4 _ rfl; (with_reducible repeat (first | refine blk_drewN ?_ _ | refine blk_drew ?_ | refine blk_alloc ?_ _)); refine blk_put (cs := #[.int .i64 t729, .int .i64 t730, .int .i64 t731, .int .i64 0, .int .i64 0, .slice none 0 0, .slice none 0 0]) ?_ 3 _ rfl; (with_reducible repeat (first | refine blk_drewN ?_ _ | refine blk_drew ?_ | refine blk_alloc ?_ _)); refine blk_put (cs := #[.int .i64 t729, .int .i64 t730, .int .i64 0, .int .i64 0, .int .i64 0, .slice none 0 0, .slice none 0 0]) ?_ 2 _ rfl; (with_reducible repeat (first | refine blk_drewN ?_ _ | refine blk_drew ?_ | refine blk_alloc ?_ _)); refine blk_put (cs := #[.int .i64 t729, .int .i64 0, .int .i64 0, .int .i64 0, .int .i64 0, .slice none 0 0, .slice none 0 0]) ?_ 1 _ rfl; (with_reducible repeat (first | refine blk_drewN ?_ _ | refine blk_drew ?_ | refine blk_alloc ?_ _)); refine blk_put (cs := #[.int .i64 0, .int .i64 0, .int .i64 0, .int .i64 0, .int .i64 0, .slice none 0 0, .slice none 0 0]) ?_ 0 _ rfl; (with_reducible repeat (first | refine blk_drewN ?_ _ | refine blk_drew ?_ | refine blk_alloc ?_ _)); exact BK741.out) hb); replace HB := Aside0.mk (below_step (bs HB (by simp [ag, GE676.out, GE677.out, GE741.out])) hb); (try clear hb); (try clear hb2); (try clear hk); (try clear hi); obtain ⟨hcz125_0, hcz125_1, hcz125_2, hcz125_3, hcz125_4, hcz125_5, hcz125_6, hfz125_0, hfz125_1, hfz125_2, hfz125_3, hfz125_4, hfz125_5, hfz125_6⟩ := cf7 BK741))
       go_ret
       exact ⟨by first | rfl | (simp [errW_none, errW_some] <;> rfl) | (simp [*, errW_none, errW_some] <;> rfl), bs HB (by simp [ag, GE676.out, GE677.out, GE741.out])⟩
      ·rw [if_neg c116] at H
       exact absurd H (by simp)
     ·rw [if_neg c115] at H
      exact absurd H (by simp)
    ·replace c114 := Bool.eq_false_iff.mpr c114
     subst c114
     have H1 : (none) = some r := by rw [if_neg (show ¬ (false = true) by decide)] at H; exact H
     clear H
     have H := H1
     clear H1
     exact absurd H (by simp)

end Go.Proofs.Ytehjmmedghcndaa.PG
