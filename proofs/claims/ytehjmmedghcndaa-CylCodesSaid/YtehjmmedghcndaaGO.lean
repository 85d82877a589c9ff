import Derived.Test.YtehjmmedghcndaaPGx0
import Derived.Test.YtehjmmedghcndaaLF
import Derived.Test.YtehjmmedghcndaaCK
import Derived.Test.YtehjmmedghcndaaG2
import Derived.Test.YtehjmmedghcndaaGF
import Derived.Test.YtehjmmedghcndaaCL
import Derived.Test.YtehjmmedghcndaaCB
import Derived.Test.YtehjmmedghcndaaGE
import Derived.Test.YtehjmmedghcndaaCJ
import Derived.Test.YtehjmmedghcndaaG3
import Derived.Test.YtehjmmedghcndaaG4
import Derived.Test.YtehjmmedghcndaaLT
namespace Go.Proofs.Ytehjmmedghcndaa.PG
open Go.RowKit Go.Proofs.YtehjmmedghcndaaW.PrintWords Go.Proofs.YtehjmmedghcndaaW.PrintLast Go.Proofs.YtehjmmedghcndaaW.PrintMore
attribute [local go_sem] max2_int min2_int max_two min_two max_three min_three max_four min_four run_store_one   -- for this text's walks alone
set_option linter.unusedVariables false
set_option linter.unusedSimpArgs false
/-! ### selvedgelaw18_CylCodes: function 7 -/
def selvedgelaw18_CylCodes.j0 : Nat → List Int → Int → Int → Int → Int → Int → List Int → List Int → Int → Int → Option (Bool)
 | 0, _, _, _, _, _, _, _, _, _, _ => none
 | k + 1, x1, x588000, x588001, x588002, x588003, x588004, x588005, x588006, x589000, x589001 => (cyl_Encode.f x588000 x588001 x588002 x588003 x588004 x588005 x588006).bind fun bt605 => ((selvedgeref18_Encode.f k x588000 x588001 x588002 x588003 x588004 x588005 x588006).bind fun bt609 => ((cyl_Decode.f x1).bind fun bt613 => ((selvedgeref18_Decode.f k x1).bind fun bt626 => ((cyl_Rebuild.f k x588000 x588001 x588002 x588003 x588004 x588005 x588006).bind fun bt639 => ((selvedgeref18_Rebuild.f k x588000 x588001 x588002 x588003 x588004 x588005 x588006).bind fun bt652 => ((cyl_New.f k x589000 x589001).bind fun bt665 => ((selvedgeref18_New.f k x589000 x589001).bind fun bt678 => ((selvedgelaw18_live.f).bind fun t691 => (if t691 = true then (if (strOfNums bt605.1).toList = (strOfNums bt609.1).toList then (if bt605.2 = bt609.2 then ((selvedgeref18_Same.f k bt613.1 bt613.2.1 bt613.2.2.1 bt613.2.2.2.1 bt613.2.2.2.2.1 bt613.2.2.2.2.2.1 bt613.2.2.2.2.2.2.1 bt626.1 bt626.2.1 bt626.2.2.1 bt626.2.2.2.1 bt626.2.2.2.2.1 bt626.2.2.2.2.2.1 bt626.2.2.2.2.2.2.1).bind fun t692 => (if t692 = true then (if bt613.2.2.2.2.2.2.2 = bt626.2.2.2.2.2.2.2 then ((selvedgeref18_Same.f k bt639.1 bt639.2.1 bt639.2.2.1 bt639.2.2.2.1 bt639.2.2.2.2.1 bt639.2.2.2.2.2.1 bt639.2.2.2.2.2.2.1 bt652.1 bt652.2.1 bt652.2.2.1 bt652.2.2.2.1 bt652.2.2.2.2.1 bt652.2.2.2.2.2.1 bt652.2.2.2.2.2.2.1).bind fun t693 => (if t693 = true then (if bt639.2.2.2.2.2.2.2 = bt652.2.2.2.2.2.2.2 then ((selvedgeref18_Same.f k bt665.1 bt665.2.1 bt665.2.2.1 bt665.2.2.2.1 bt665.2.2.2.2.1 bt665.2.2.2.2.2.1 bt665.2.2.2.2.2.2.1 bt678.1 bt678.2.1 bt678.2.2.1 bt678.2.2.2.1 bt678.2.2.2.2.1 bt678.2.2.2.2.2.1 bt678.2.2.2.2.2.2.1).bind fun t694 => (if t694 = true then (if bt665.2.2.2.2.2.2.2 = bt678.2.2.2.2.2.2.2 then ((cyl_Right.f k x588000 x588001 x588002 x588003 x588004 x588005 x588006).bind fun t695 => ((selvedgeref18_Right.f k x588000 x588001 x588002 x588003 x588004 x588005 x588006).bind fun t696 => (if (t695 == t696) = true then (some true) else (none)))) else (none)) else (none))) else (none)) else (none))) else (none)) else (none))) else (none)) else (none)) else (none))))))))))
def selvedgelaw18_CylCodes.f (k : Nat) (a0_0 : Int) (a0_1 : Int) (a0_2 : Int) (a0_3 : Int) (a0_4 : Int) (l0_5 : List Int) (l0_6 : List Int) (l1 : List Int) (a2_0 : Int) (a2_1 : Int) : Option (Bool) := (selvedgelaw18_one.f a0_0 a0_1 a0_2 a0_3 a0_4 l0_5 l0_6).bind fun bt589 => (if (l1.length : Int) > 40 then (if 40 ≤ (l1.length : Int) then (selvedgelaw18_CylCodes.j0 k (l1.take 40) bt589.1 bt589.2.1 bt589.2.2.1 bt589.2.2.2.1 bt589.2.2.2.2.1 bt589.2.2.2.2.2.1 bt589.2.2.2.2.2.2 a2_0 a2_1) else (none)) else (selvedgelaw18_CylCodes.j0 k l1 bt589.1 bt589.2.1 bt589.2.2.1 bt589.2.2.2.1 bt589.2.2.2.2.1 bt589.2.2.2.2.2.1 bt589.2.2.2.2.2.2 a2_0 a2_1))
def selvedgelaw18_CylCodes.T12 : Bool × List (List Nat × List Nat) := (true, [([], []), ([0, 0], [0]), ([1], [1]), ([2, 1], [1, 2]), ([1], [1]), ([4, 1], [1, 4]), ([3, 5, 1], [1, 3, 5]), ([1, 6], [1, 6]), ([7, 1], [7]), ([8], [8]), ([8], [8]), ([9, 10, 8], [8, 9, 10]), ([8, 11], [8, 11]), ([12, 8], [12]), ([13], [13]), ([13], [13]), ([14, 15, 13, 13], [13, 14, 15]), ([13, 16], [13, 16]), ([17, 16], [17]), ([18], [18]), ([18], [18]), ([19, 20, 18], [18, 19, 20]), ([18, 21], [18, 21]), ([22, 18], [22]), ([23], [23]), ([23], [23]), ([24, 25, 23, 23], [23, 24, 25]), ([23, 26], [23, 26]), ([27, 26], [27]), ([28], [28]), ([28], [28]), ([29, 30, 28], [28, 29, 30]), ([28, 31], [28, 31]), ([32, 28], [32]), ([33], [33]), ([33], [33]), ([34, 35, 33, 33], [33, 34, 35]), ([33, 36], [33, 36]), ([37, 36], [37]), ([38], [38]), ([38], [38]), ([39, 40, 38], [38, 39, 40]), ([38, 41], [38, 41]), ([42, 38], [42]), ([43], [43]), ([44, 43, 43], [43, 44]), ([43], [43]), ([46, 45, 43], [43, 46]), ([45, 47, 43], [43, 45, 47]), ([43, 48], [43, 48]), ([49, 47, 0, 1, 2, 3, 4, 5, 6, 7, 8, 9, 10, 11, 12, 13, 14, 15, 16, 17, 18, 19, 20, 21, 22, 23, 24, 25, 26, 27, 28, 29, 30, 31, 32, 33, 34, 35, 36, 37, 38, 39, 40, 41, 42, 43, 44, 45, 46, 47, 48, 49], [49])])
def selvedgelaw18_CylCodes.B12 : List Nat := [0, 1, 3, 7, 3, 19, 63, 127, 255, 511, 511, 2047, 4095, 8191, 16383, 16383, 65535, 131071, 262143, 524287, 524287, 2097151, 4194303, 8388607, 16777215, 16777215, 67108863, 134217727, 268435455, 536870911, 536870911, 2147483647, 4294967295, 8589934591, 17179869183, 17179869183, 68719476735, 137438953471, 274877906943, 549755813887, 549755813887, 2199023255551, 4398046511103, 8796093022207, 17592186044415, 35184372088831, 17592186044415, 140737488355327, 281474976710655, 562949953421311, 1125899906842623]
theorem selvedgelaw18_CylCodes.tab12 : rtab .any (opsOf Try.f7 12) = selvedgelaw18_CylCodes.T12 := by kernel_rfl
theorem selvedgelaw18_CylCodes.bits12 : waitsOk selvedgelaw18_CylCodes.T12.2 selvedgelaw18_CylCodes.B12 = true := by kernel_rfl
set_option maxHeartbeats 8000000 in
set_option maxRecDepth 100000 in
theorem selvedgelaw18_CylCodes.calls (k : Nat) (a0_0 : Int) (a0_1 : Int) (a0_2 : Int) (a0_3 : Int) (a0_4 : Int) (A0_5 : Option Addr) (c0_5 : Nat) (l0_5 : List Int) (A0_6 : Option Addr) (c0_6 : Nat) (l0_6 : List Int) (P1_ : Nat → Prop) (A1 : Option Addr) (c1 : Nat) (l1 : List Int) (a2_0 : Int) (a2_1 : Int) (r : Bool) (w : World) (hr0_5 : Kd.C (Kd.int .i64) w A0_5 l0_5.length l0_5) (hc0_5 : l0_5.length ≤ c0_5) (hr0_6 : Kd.C (Kd.int .i64) w A0_6 l0_6.length l0_6) (hc0_6 : l0_6.length ≤ c0_6) (hs1 : Kd.V (Kd.int .u8) 5 w w.heap.size (fun k_ => P1_ k_) (.slice A1 l1.length c1) l1) (h : selvedgelaw18_CylCodes.f k a0_0 a0_1 a0_2 a0_3 a0_4 l0_5 l0_6 l1 a2_0 a2_1 = some r) :
  Calls Try.prog 7 #[.agg #[.int .i64 a0_0, .int .i64 a0_1, .int .i64 a0_2, .int .i64 a0_3, .int .i64 a0_4, .slice A0_5 l0_5.length c0_5, .slice A0_6 l0_6.length c0_6], .slice A1 l1.length c1, .agg #[.int .i64 a2_0, .int .i64 a2_1]] w fun e w' => e = .returned (.bool r) ∧ Below w.heap.size w w' := by
 have hu42 := Try.underlying42
 have hu51 := Try.underlying51
 have HR0_5 := Aside0.mk hr0_5
 have HC0_5 := Aside0.mk hc0_5
 clear hr0_5 hc0_5
 have HR0_6 := Aside0.mk hr0_6
 have HC0_6 := Aside0.mk hc0_6
 clear hr0_6 hc0_6
 have HO1 := Aside0.mk (show Kd.V (Kd.int .u8) 5 w w.heap.size (fun k_ => (P1_ k_ ∨ w.heap.size ≤ k_)) (.slice A1 l1.length c1) l1 from Kd.V_mono hs1 (fun k_ hk => .inl hk))
 have HB := Aside0.mk (Below.refl w.heap.size w)
 have H : ((selvedgelaw18_one.f a0_0 a0_1 a0_2 a0_3 a0_4 l0_5 l0_6).bind fun bt589 => (if (l1.length : Int) > 40 then (if 40 ≤ (l1.length : Int) then (selvedgelaw18_CylCodes.j0 k (l1.take 40) bt589.1 bt589.2.1 bt589.2.2.1 bt589.2.2.2.1 bt589.2.2.2.2.1 bt589.2.2.2.2.2.1 bt589.2.2.2.2.2.2 a2_0 a2_1) else (none)) else (selvedgelaw18_CylCodes.j0 k l1 bt589.1 bt589.2.1 bt589.2.2.1 bt589.2.2.2.1 bt589.2.2.2.2.1 bt589.2.2.2.2.2.1 bt589.2.2.2.2.2.2 a2_0 a2_1))) = some r := h
 clear h
 replace H := Option.bind_eq_some_iff.mp H
 obtain ⟨⟨t589, t590, t591, t592, t593, t594, t597⟩, A40, H⟩ := H
 try dsimp -implicitDefEqProofs -simprocs only at H
 have A4 := Aside0.mk A40
 clear A40
 have HC5 := Aside0.mk H
 clear H
 go_enter Try.func7, Try.ntmps7
 go_upto_if 27 with (first | ((with_reducible refine gate_dst (N := 3) rfl ?_); refine box_event rfl (N := 3) rfl (cs := #[.int .i64 a0_0, .int .i64 a0_1, .int .i64 a0_2, .int .i64 a0_3, .int .i64 a0_4, .slice A0_5 l0_5.length c0_5, .slice A0_6 l0_6.length c0_6]) (t := 42) (by first | (go_simp; done) | (go_simp; rfl)) ?_; intro gb587 hg w6 hbox hb; replace HO1 := Aside0.mk (Kd.V_below (Kd.V_elderB (vk HO1) gb587 (Nat.le_of_eq hg.symm)) hb); have BK587 := Aside0.mk (hbox); have GW587 := gs HB hg; have GE587 := gs HB hg; replace HB := Aside0.mk (below_step (bl HB) hb); clear hb hbox hg) | ((with_reducible refine gate_dst (N := 5) rfl ?_); refine box_event rfl (N := 5) rfl (cs := #[.int .i64 a2_0, .int .i64 a2_1]) (t := 51) (by first | (go_simp; done) | (go_simp; rfl)) ?_; intro gb588 hg w7 hbox hb; replace HO1 := Aside0.mk (Kd.V_below (Kd.V_elderB (vk HO1) gb588 (Nat.le_of_eq hg.symm)) hb); have BK588 := Aside0.mk (hbox); have GW588 := gl HB hg (by simp [ag, GE587.out]); have GE588 := gl HB hg (by simp [ag, GE587.out]); replace HB := Aside0.mk (below_step (bs HB (by simp [ag, GE587.out])) hb); have NB587_588 := nl BK587 hg; have NB588_587 := nt BK587 hg; replace BK587 := Aside0.mk (bb BK587 hb); clear hb hbox hg; have hnb8 := NB587_588.out; have hnc8 := NB588_587.out; obtain ⟨hcz9_0, hcz9_1, hcz9_2, hcz9_3, hcz9_4, hcz9_5, hcz9_6, hfz9_0, hfz9_1, hfz9_2, hfz9_3, hfz9_4, hfz9_5, hfz9_6⟩ := cf7 BK587) | ((with_reducible refine gate_callee (f := 25) rfl ?_); refine goesL_ (some 24) rfl rfl Try.func25 (by kernel_rfl) rfl #[.agg #[.int .i64 a0_0, .int .i64 a0_1, .int .i64 a0_2, .int .i64 a0_3, .int .i64 a0_4, .slice A0_5 l0_5.length c0_5, .slice A0_6 l0_6.length c0_6]] rfl (by (try simp only [List.map_toArray, List.map_cons, List.map_nil]); first | done | rfl | (simp only [List.length_drop, List.length_take]; rfl)) ?_; (with_reducible refine (selvedgelaw18_one.calls a0_0 a0_1 a0_2 a0_3 a0_4 _ _ l0_5 _ _ l0_6 t589 t590 t591 t592 t593 t594 t597 _ ?side1 ?side2 ?side3 ?side4 A4.out).mono ?_); (case side1 => exact ck (Kd.C_below HR0_5.out HB.out)); (case side2 => exact HC0_5.out); (case side3 => exact ck (Kd.C_below HR0_6.out HB.out)); (case side4 => exact HC0_6.out); rintro e w10 ⟨v595, v598, rfl, ho0, ho1, hb⟩; refine ⟨_, rfl, ?_⟩; have hone_v595 := Kd.R_one ho0; have hone_v598 := Kd.R_one ho1; replace HO1 := Aside0.mk (Kd.V_mono (Kd.V_told (Kd.V_told (Kd.V_old (vk HO1) hb) (Kd.R_base ho0)) (Kd.R_base ho1)) (fun _ h_ => h_.1)); have HO596 := Aside0.mk (Kd.R_lower (Kd.R_newM (M := fun k_ => (w.heap.size ≤ k_)) ho0 (below_size (bs HB (by simp [ag, GE587.out, GE588.out]))) (fun k_ h_ => h_)) (below_size (bs HB (by simp [ag, GE587.out, GE588.out])))); have HO599 := Aside0.mk (Kd.R_lower (Kd.R_newM (M := fun k_ => (w.heap.size ≤ k_)) ho1 (below_size (bs HB (by simp [ag, GE587.out, GE588.out]))) (fun k_ h_ => h_)) (below_size (bs HB (by simp [ag, GE587.out, GE588.out])))); replace BK587 := Aside0.mk (bb BK587 hb); replace BK588 := Aside0.mk (bb BK588 hb); replace HB := Aside0.mk (below_step (bs HB (by simp [ag, GE587.out, GE588.out])) hb); clear ho0 hb; (try clear ho1); obtain ⟨hcz11_0, hcz11_1, hcz11_2, hcz11_3, hcz11_4, hcz11_5, hcz11_6, hfz11_0, hfz11_1, hfz11_2, hfz11_3, hfz11_4, hfz11_5, hfz11_6⟩ := cf7 BK587; obtain ⟨Ao12, co12, eo12⟩ := Kd.R_slice HO596.out; subst eo12; obtain ⟨Ao13, co13, eo13⟩ := Kd.R_slice HO599.out; subst eo13) | ((with_reducible refine gate_store (t := 42) (p := 3) rfl ?_); refine store_event (t := 42) (p := 3) (v := ?vo_w14) (w1 := (((((((w10.setCell ⟨gb587, 0, none⟩ (.int .i64 t589)).setCell ⟨gb587, 1, none⟩ (.int .i64 t590)).setCell ⟨gb587, 2, none⟩ (.int .i64 t591)).setCell ⟨gb587, 3, none⟩ (.int .i64 t592)).setCell ⟨gb587, 4, none⟩ (.int .i64 t593)).setCell ⟨gb587, 5, none⟩ (.slice Ao12 t594.length co12)).setCell ⟨gb587, 6, none⟩ (.slice Ao13 t597.length co13))) ?hg ?ho ?hn ?hr ?_; (case ho => rfl); (case hg => rfl); (case hn => rfl); (case hr => first | (go_simp; done) | (go_simp; rfl)); intro w14 hw; have n0_ : Aside0 (Kd.V (Kd.int .u8) 5 w14 w.heap.size (fun k_ => (P1_ k_ ∨ w.heap.size ≤ k_) ∧ nB k_ Ao12 t594 co12 ∧ nB k_ Ao13 t597 co13 ∧ k_ ≠ gb587 ∧ k_ ≠ gb588) (.slice A1 l1.length c1) l1) := ⟨(by rw [hw]; exact (vf7 HO1.out (fun _ hk => hk.1.1.1.2) (fun _ hk => by (try simp only [nB] at hk ⊢); simp [hk])))⟩; have n1_ : Aside0 (Kd.R (Kd.int .i64) 3 w14 w.heap.size (fun k_ => (w.heap.size ≤ k_) ∧ nB k_ Ao13 t597 co13) (.slice Ao12 t594.length co12) t594) := ⟨(by rw [hw]; exact (rf7 HO596.out BK587.out (by decide) (fun _ hk => ⟨hk.1.1, hk.1.2⟩)))⟩; have n2_ : Aside0 (Kd.R (Kd.int .i64) 3 w14 w.heap.size (fun k_ => (w.heap.size ≤ k_) ∧ nB k_ Ao12 t594 co12) (.slice Ao13 t597.length co13) t597) := ⟨(by rw [hw]; exact (rf7 HO599.out BK587.out (by decide) (fun _ hk => ⟨hk.1.1, hk.1.2⟩)))⟩; have n3_ : Aside0 (w14.heap[gb587]? = some (.cells #[.int .i64 t589, .int .i64 t590, .int .i64 t591, .int .i64 t592, .int .i64 t593, .slice Ao12 t594.length co12, .slice Ao13 t597.length co13] 42 (0, 0))) := ⟨(by rw [hw]; exact bp7 BK587.out)⟩; have n4_ : Aside0 (w14.heap[gb588]? = some (.cells #[.int .i64 a2_0, .int .i64 a2_1] 51 (0, 0))) := ⟨(by rw [hw]; exact bf7 BK588.out NB588_587.out)⟩; have n5_ : Aside0 (Below w.heap.size w w14) := ⟨(by rw [hw]; exact (bs HB (by simp [ag, GE587.out, GE588.out])))⟩; clear hw; clear HO1; clear HO596; clear HO599; clear BK587; clear BK588; clear HB; have HO1 := n0_; have HO596 := n1_; have HO599 := n2_; have BK587 := n3_; have BK588 := n4_; have HB := n5_; clear n0_ n1_ n2_ n3_ n4_ n5_))
 (try go_simp)
 go_cut [1] (fun v1 wc => ∃ (kq : Nat) (x1_4 : List Int), Aside0 (selvedgelaw18_CylCodes.j0 kq x1_4 t589 t590 t591 t592 t593 t594 t597 a2_0 a2_1 = some r) ∧ Aside0 (kq ≤ k) ∧ Aside0 (Kd.V (Kd.int .u8) 5 wc w.heap.size (fun k_ => (P1_ k_ ∨ w.heap.size ≤ k_) ∧ nB k_ Ao12 t594 co12 ∧ nB k_ Ao13 t597 co13 ∧ k_ ≠ gb587 ∧ k_ ≠ gb588) v1 x1_4) ∧ Aside0 (Kd.R (Kd.int .i64) 3 wc w.heap.size (fun k_ => (w.heap.size ≤ k_) ∧ nB k_ Ao13 t597 co13) (.slice Ao12 t594.length co12) t594) ∧ Aside0 (Kd.R (Kd.int .i64) 3 wc w.heap.size (fun k_ => (w.heap.size ≤ k_) ∧ nB k_ Ao12 t594 co12) (.slice Ao13 t597.length co13) t597) ∧ Aside0 (wc.heap[gb587]? = some (.cells #[.int .i64 t589, .int .i64 t590, .int .i64 t591, .int .i64 t592, .int .i64 t593, (.slice Ao12 t594.length co12), (.slice Ao13 t597.length co13)] 42 (0, 0))) ∧ Aside0 (wc.heap[gb588]? = some (.cells #[.int .i64 a2_0, .int .i64 a2_1] 51 (0, 0))) ∧ Aside0 (Below w.heap.size w wc))
 case first =>
  have H := HC5.out
  clear HC5
  by_cases c15 : (l1.length : Int) > 40
  rotate_left
  ·rw [if_neg c15] at H
   have c15b0 : decide (40 < (l1.length : Int)) = false := decide_eq_false c15
   have c15b1 : decide (40 < l1.length) = false := decide_eq_false (by omega)
   clear c15
   (first | rw [c15b0] | (simp only [i64_w, i32_w]; rw [c15b0]) | skip)
   have H' := Aside0.mk H
   clear H
   go_wp2
   go_meet
   case rel => exact ⟨_, (l1), H', ⟨by first | omega | exact Nat.le_refl _⟩, ⟨vk HO1⟩, ⟨rk HO596⟩, ⟨rk HO599⟩, ⟨bk BK587⟩, ⟨bk BK588⟩, ⟨bs HB (by simp [ag, GE587.out, GE588.out])⟩⟩
  rw [if_pos c15] at H
  have c15b0 : decide (40 < (l1.length : Int)) = true := decide_eq_true c15
  have c15b1 : decide (40 < l1.length) = true := decide_eq_true (by omega)
  clear c15
  (first | rw [c15b0] | (simp only [i64_w, i32_w]; rw [c15b0]) | skip)
  by_cases c16 : 40 ≤ (l1.length : Int)
  rotate_left
  ·rw [if_neg c16] at H
   exact absurd H (by simp)
  rw [if_pos c16] at H
  have c16b0 := eq_true c16
  have c16b1 : decide (40 ≤ (l1.length : Int)) = true := decide_eq_true c16
  clear c16
  obtain ⟨y600, hy600⟩ : ∃ y_ : List Int, y_ = (l1.take 40) := ⟨_, rfl⟩
  replace H : (selvedgelaw18_CylCodes.j0 k y600 t589 t590 t591 t592 t593 t594 t597 a2_0 a2_1) = some r := by first | (rw [hy600]; with_reducible exact H) | (have H2_ := (Option.bind_some _ _).symm.trans H; rw [hy600]; with_reducible exact H2_) | (have H2_ := (Option.bind_some _ _).symm.trans H; with_reducible exact H2_) | with_reducible exact H | (rw [hy600]; exact H) | exact H
  have Ny600 := Aside0.mk hy600
  clear hy600
  have H' := Aside0.mk H
  clear H
  have q17 : (40 : Int) ≤ ((l1.length : Int) : Int) := of_decide_eq_true (by first | with_reducible assumption | assumption)
  obtain ⟨i017, hi017, _, hsz17, _⟩ := info_parts info5
  have hroom17 : l1.length ≤ c1 := (Kd.V_reads' HO1.out).2.1
  have hC17 : Kd.F (Kd.int .u8) _ _ A1 l1.length l1 := (Kd.V_at (base := w.heap.size) HO1.out).2.2
  have hcut17 := cut_to (P := Try.prog) 35 5 .i64 Try.underlying35 hi017 A1 l1.length c1 40 (by omega) q17 hroom17
  have hr17 := Kd.F_take (m := 40) hC17 (by omega)
  have hy17 : y600.length = (40 : Int).toNat := (by rw [Ny600.out, List.length_take]; omega)
  rw [← Ny600.out] at hr17
  rw [← hy17] at hcut17
  have HO604 := Aside0.mk (show Kd.V (Kd.int .u8) 5 _ w.heap.size _ (.slice A1 y600.length c1) y600 from Kd.V_mk (by omega) hr17)
  have HC604 := Aside0.mk (show y600.length ≤ c1 from by omega)
  clear hr17 hC17 hroom17 hi017 hsz17
  have KY17 := Aside0.mk hy17
  clear hy17
  replace q17 := eq_true q17
  go_wp2
  go_meet
  case rel => exact ⟨_, (y600), H', ⟨by first | omega | exact Nat.le_refl _⟩, ⟨vk HO604⟩, ⟨rk HO596⟩, ⟨rk HO599⟩, ⟨bk BK587⟩, ⟨bk BK588⟩, ⟨bs HB (by simp [ag, GE587.out, GE588.out])⟩⟩
 case rest =>
  clear HC5
  try clear c1
  try clear q1
  try clear c2
  try clear p2
  try clear c7
  try clear c8
  try clear c15
  try clear c15b0
  try clear c15b1
  try clear c16
  try clear c16b0
  try clear c16b1
  try clear q17
  try clear hcz11_0
  try clear hcz11_1
  try clear hcz11_2
  try clear hcz11_3
  try clear hcz11_4
  try clear hcz11_5
  try clear hcz11_6
  try clear hcz9_0
  try clear hcz9_1
  try clear hcz9_2
  try clear hcz9_3
  try clear hcz9_4
  try clear hcz9_5
  try clear hcz9_6
  try clear hfz11_0
  try clear hfz11_1
  try clear hfz11_2
  try clear hfz11_3
  try clear hfz11_4
  try clear hfz11_5
  try clear hfz11_6
  try clear hfz9_0
  try clear hfz9_1
  try clear hfz9_2
  try clear hfz9_3
  try clear hfz9_4
  try clear hfz9_5
  try clear hfz9_6
  try clear q17
  obtain ⟨kq, x1_4, HA, HJ4, HO_1, HO_588005, HO_588006, BK587, BK588, HB⟩ := hcut
  cases kq with
  | zero => exact absurd HA.out (by simp [selvedgelaw18_CylCodes.j0])
  | succ kj4 =>
   have H := HA.out
   clear HA
   simp only [selvedgelaw18_CylCodes.j0] at H
   replace H := Option.bind_eq_some_iff.mp H
   obtain ⟨⟨t605, t608⟩, A180, H⟩ := H
   try dsimp -implicitDefEqProofs -simprocs only at H
   have A18 := Aside0.mk A180
   clear A180
   replace H := Option.bind_eq_some_iff.mp H
   obtain ⟨⟨t609, t612⟩, A190, H⟩ := H
   try dsimp -implicitDefEqProofs -simprocs only at H
   have A19 := Aside0.mk A190
   clear A190
   replace H := Option.bind_eq_some_iff.mp H
   obtain ⟨⟨t613, t614, t615, t616, t617, t618, t621, t624⟩, A200, H⟩ := H
   try dsimp -implicitDefEqProofs -simprocs only at H
   have A20 := Aside0.mk A200
   clear A200
   replace H := Option.bind_eq_some_iff.mp H
   obtain ⟨⟨t626, t627, t628, t629, t630, t631, t634, t637⟩, A210, H⟩ := H
   try dsimp -implicitDefEqProofs -simprocs only at H
   have A21 := Aside0.mk A210
   clear A210
   replace H := Option.bind_eq_some_iff.mp H
   obtain ⟨⟨t639, t640, t641, t642, t643, t644, t647, t650⟩, A220, H⟩ := H
   try dsimp -implicitDefEqProofs -simprocs only at H
   have A22 := Aside0.mk A220
   clear A220
   replace H := Option.bind_eq_some_iff.mp H
   obtain ⟨⟨t652, t653, t654, t655, t656, t657, t660, t663⟩, A230, H⟩ := H
   try dsimp -implicitDefEqProofs -simprocs only at H
   have A23 := Aside0.mk A230
   clear A230
   replace H := Option.bind_eq_some_iff.mp H
   obtain ⟨⟨t665, t666, t667, t668, t669, t670, t673, t676⟩, A240, H⟩ := H
   try dsimp -implicitDefEqProofs -simprocs only at H
   have A24 := Aside0.mk A240
   clear A240
   replace H := Option.bind_eq_some_iff.mp H
   obtain ⟨⟨t678, t679, t680, t681, t682, t683, t686, t689⟩, A250, H⟩ := H
   try dsimp -implicitDefEqProofs -simprocs only at H
   have A25 := Aside0.mk A250
   clear A250
   replace H := Option.bind_eq_some_iff.mp H
   obtain ⟨t691, A260, H⟩ := H
   try dsimp -implicitDefEqProofs -simprocs only at H
   have A26 := Aside0.mk A260
   clear A260
   by_cases c27 : t691 = true
   rotate_left
   ·replace c27 := Bool.eq_false_iff.mpr c27
    subst c27
    have H1 : (none) = some r := by rw [if_neg (show ¬ (false = true) by decide)] at H; exact H
    clear H
    have H := H1
    clear H1
    exact absurd H (by simp)

   subst c27
   have H1 : (if (strOfNums t605).toList = (strOfNums t609).toList then (if t608 = t612 then ((selvedgeref18_Same.f kj4 t613 t614 t615 t616 t617 t618 t621 t626 t627 t628 t629 t630 t631 t634).bind fun t692 => (if t692 = true then (if t624 = t637 then ((selvedgeref18_Same.f kj4 t639 t640 t641 t642 t643 t644 t647 t652 t653 t654 t655 t656 t657 t660).bind fun t693 => (if t693 = true then (if t650 = t663 then ((selvedgeref18_Same.f kj4 t665 t666 t667 t668 t669 t670 t673 t678 t679 t680 t681 t682 t683 t686).bind fun t694 => (if t694 = true then (if t676 = t689 then ((cyl_Right.f kj4 t589 t590 t591 t592 t593 t594 t597).bind fun t695 => ((selvedgeref18_Right.f kj4 t589 t590 t591 t592 t593 t594 t597).bind fun t696 => (if (t695 == t696) = true then (some true) else (none)))) else (none)) else (none))) else (none)) else (none))) else (none)) else (none))) else (none)) else (none)) = some r := by rw [if_pos rfl] at H; exact H
   clear H
   have H := H1
   clear H1
   by_cases c28 : (strOfNums t605).toList = (strOfNums t609).toList
   rotate_left
   ·rw [if_neg c28] at H
    have c28b0 : ((strOfNums t605).toList == (strOfNums t609).toList) = false := beq_eq_false_iff_ne.mpr c28
    have c28b1 : ((strOfNums t605).toList != (strOfNums t609).toList) = true := bne_iff_ne.mpr c28
    exact absurd H (by simp)
   rw [if_pos c28] at H
   have c28b0 : ((strOfNums t605).toList == (strOfNums t609).toList) = true := beq_iff_eq.mpr c28
   have c28b1 : ((strOfNums t605).toList != (strOfNums t609).toList) = false := bne_eq_false_iff_eq.mpr c28
   clear c28
   by_cases c29 : t608 = t612
   rotate_left
   ·rw [if_neg c29] at H
    have c29b0 : (t608 == t612) = false := beq_eq_false_iff_ne.mpr c29
    have c29b1 : (t608 != t612) = true := bne_iff_ne.mpr c29
    exact absurd H (by simp)
   rw [if_pos c29] at H
   have c29b0 : (t608 == t612) = true := beq_iff_eq.mpr c29
   have c29b1 : (t608 != t612) = false := bne_eq_false_iff_eq.mpr c29
   clear c29
   replace H := Option.bind_eq_some_iff.mp H
   obtain ⟨t692, A300, H⟩ := H
   try dsimp -implicitDefEqProofs -simprocs only at H
   have A30 := Aside0.mk A300
   clear A300
   by_cases c31 : t692 = true
   rotate_left
   ·replace c31 := Bool.eq_false_iff.mpr c31
    subst c31
    have H1 : (none) = some r := by rw [if_neg (show ¬ (false = true) by decide)] at H; exact H
    clear H
    have H := H1
    clear H1
    exact absurd H (by simp)
   subst c31
   have H1 : (if t624 = t637 then ((selvedgeref18_Same.f kj4 t639 t640 t641 t642 t643 t644 t647 t652 t653 t654 t655 t656 t657 t660).bind fun t693 => (if t693 = true then (if t650 = t663 then ((selvedgeref18_Same.f kj4 t665 t666 t667 t668 t669 t670 t673 t678 t679 t680 t681 t682 t683 t686).bind fun t694 => (if t694 = true then (if t676 = t689 then ((cyl_Right.f kj4 t589 t590 t591 t592 t593 t594 t597).bind fun t695 => ((selvedgeref18_Right.f kj4 t589 t590 t591 t592 t593 t594 t597).bind fun t696 => (if (t695 == t696) = true then (some true) else (none)))) else (none)) else (none))) else (none)) else (none))) else (none)) = some r := by rw [if_pos rfl] at H; exact H
   clear H
   have H := H1
   clear H1
   by_cases c32 : t624 = t637
   rotate_left
   ·rw [if_neg c32] at H
    have c32b0 : (t624 == t637) = false := beq_eq_false_iff_ne.mpr c32
    have c32b1 : (t624 != t637) = true := bne_iff_ne.mpr c32
    exact absurd H (by simp)
   rw [if_pos c32] at H
   have c32b0 : (t624 == t637) = true := beq_iff_eq.mpr c32
   have c32b1 : (t624 != t637) = false := bne_eq_false_iff_eq.mpr c32
   clear c32
   replace H := Option.bind_eq_some_iff.mp H
   obtain ⟨t693, A330, H⟩ := H
   try dsimp -implicitDefEqProofs -simprocs only at H
   have A33 := Aside0.mk A330
   clear A330
   by_cases c34 : t693 = true
   rotate_left
   ·replace c34 := Bool.eq_false_iff.mpr c34
    subst c34
    have H1 : (none) = some r := by rw [if_neg (show ¬ (false = true) by decide)] at H; exact H
    clear H
    have H := H1
    clear H1
    exact absurd H (by simp)
   subst c34
   have H1 : (if t650 = t663 then ((selvedgeref18_Same.f kj4 t665 t666 t667 t668 t669 t670 t673 t678 t679 t680 t681 t682 t683 t686).bind fun t694 => (if t694 = true then (if t676 = t689 then ((cyl_Right.f kj4 t589 t590 t591 t592 t593 t594 t597).bind fun t695 => ((selvedgeref18_Right.f kj4 t589 t590 t591 t592 t593 t594 t597).bind fun t696 => (if (t695 == t696) = true then (some true) else (none)))) else (none)) else (none))) else (none)) = some r := by rw [if_pos rfl] at H; exact H
   clear H
   have H := H1
   clear H1
   by_cases c35 : t650 = t663
   rotate_left
   ·rw [if_neg c35] at H
    have c35b0 : (t650 == t663) = false := beq_eq_false_iff_ne.mpr c35
    have c35b1 : (t650 != t663) = true := bne_iff_ne.mpr c35
    exact absurd H (by simp)
   rw [if_pos c35] at H
   have c35b0 : (t650 == t663) = true := beq_iff_eq.mpr c35
   have c35b1 : (t650 != t663) = false := bne_eq_false_iff_eq.mpr c35
   clear c35
   replace H := Option.bind_eq_some_iff.mp H
   obtain ⟨t694, A360, H⟩ := H
   try dsimp -implicitDefEqProofs -simprocs only at H
   have A36 := Aside0.mk A360
   clear A360
   by_cases c37 : t694 = true
   rotate_left
   ·replace c37 := Bool.eq_false_iff.mpr c37
    subst c37
    have H1 : (none) = some r := by rw [if_neg (show ¬ (false = true) by decide)] at H; exact H
    clear H
    have H := H1
    clear H1
    exact absurd H (by simp)
   subst c37
   have H1 : (if t676 = t689 then ((cyl_Right.f kj4 t589 t590 t591 t592 t593 t594 t597).bind fun t695 => ((selvedgeref18_Right.f kj4 t589 t590 t591 t592 t593 t594 t597).bind fun t696 => (if (t695 == t696) = true then (some true) else (none)))) else (none)) = some r := by rw [if_pos rfl] at H; exact H
   clear H
   have H := H1
   clear H1
   by_cases c38 : t676 = t689
   rotate_left
   ·rw [if_neg c38] at H
    have c38b0 : (t676 == t689) = false := beq_eq_false_iff_ne.mpr c38
    have c38b1 : (t676 != t689) = true := bne_iff_ne.mpr c38
    exact absurd H (by simp)
   rw [if_pos c38] at H
   have c38b0 : (t676 == t689) = true := beq_iff_eq.mpr c38
   have c38b1 : (t676 != t689) = false := bne_eq_false_iff_eq.mpr c38
   clear c38
   replace H := Option.bind_eq_some_iff.mp H
   obtain ⟨t695, A390, H⟩ := H
   try dsimp -implicitDefEqProofs -simprocs only at H
   have A39 := Aside0.mk A390
   clear A390
   replace H := Option.bind_eq_some_iff.mp H
   obtain ⟨t696, A400, H⟩ := H
   try dsimp -implicitDefEqProofs -simprocs only at H
   have A40 := Aside0.mk A400
   clear A400
   by_cases c41 : (t695 == t696) = true
   rotate_left
   ·rw [if_neg c41] at H
    exact absurd H (by simp)
   rw [if_pos c41] at H
   have c41b0 : (t695 == t696) = true := c41
   (try (have c41b1 : decide (t695 = t696) = true := by simpa using c41))
   (try (have c41b2 : (t695 == t696) = true := by simpa using c41))
   clear c41
   obtain rfl := Option.some.inj H
   have hnb42 := NB587_588.out
   have hnc42 := NB588_587.out
   obtain ⟨hcz43_0, hcz43_1, hcz43_2, hcz43_3, hcz43_4, hcz43_5, hcz43_6, hfz43_0, hfz43_1, hfz43_2, hfz43_3, hfz43_4, hfz43_5, hfz43_6⟩ := cf7 BK587
   try go_wp2_with (first | ((with_reducible refine gate_callee (f := 30) rfl ?_); refine goesL_ (some 32) rfl rfl Try.func30 (by kernel_rfl) rfl #[.agg #[.int .i64 t589, .int .i64 t590, .int .i64 t591, .int .i64 t592, .int .i64 t593, .slice Ao12 t594.length co12, .slice Ao13 t597.length co13]] rfl (by (try simp only [List.map_toArray, List.map_cons, List.map_nil]); first | done | rfl | (simp only [List.length_drop, List.length_take]; rfl)) ?_; (with_reducible refine (cyl_Encode.calls t589 t590 t591 t592 t593 _ _ t594 _ _ t597 t605 t608 _ ?side1 ?side2 ?side3 ?side4 A18.out).mono ?_); (case side1 => repeat (first | exact (Kd.R_reads' HO_588005.out).2.2 | (with_reducible refine Kd.C_alloc ?_ _) | (with_reducible refine Kd.C_drewN ?_ _) | (with_reducible refine Kd.C_drew ?_))); (case side2 => exact (Kd.R_reads' HO_588005.out).2.1); (case side3 => repeat (first | exact (Kd.R_reads' HO_588006.out).2.2 | (with_reducible refine Kd.C_alloc ?_ _) | (with_reducible refine Kd.C_drewN ?_ _) | (with_reducible refine Kd.C_drew ?_))); (case side4 => exact (Kd.R_reads' HO_588006.out).2.1); rintro e w44 ⟨v606, rfl, ho0, hb⟩; refine ⟨_, rfl, ?_⟩; have hone_v606 := Kd.R_one ho0; replace HO_1 := Aside0.mk (Kd.V_elder' (vk HO_1) (Kd.R_base ho0) hb); replace HO_588005 := Aside0.mk (Kd.R_below (rk HO_588005) hb); replace HO_588006 := Aside0.mk (Kd.R_below (rk HO_588006) hb); have HO607 := Aside0.mk (Kd.R_lower (Kd.R_newM (M := fun k_ => (w.heap.size ≤ k_)) ho0 (below_size (bs HB (by simp [ag, GE587.out, GE588.out]))) (fun k_ h_ => h_)) (below_size (bs HB (by simp [ag, GE587.out, GE588.out])))); replace BK587 := Aside0.mk (bb BK587 hb); replace BK588 := Aside0.mk (bb BK588 hb); replace HB := Aside0.mk (below_step (bs HB (by simp [ag, GE587.out, GE588.out])) hb); clear ho0 hb; obtain ⟨hcz45_0, hcz45_1, hcz45_2, hcz45_3, hcz45_4, hcz45_5, hcz45_6, hfz45_0, hfz45_1, hfz45_2, hfz45_3, hfz45_4, hfz45_5, hfz45_6⟩ := cf7 BK587) | ((with_reducible refine gate_callee (f := 31) rfl ?_); refine goesL_ (some 37) rfl rfl Try.func31 (by kernel_rfl) rfl #[.agg #[.int .i64 t589, .int .i64 t590, .int .i64 t591, .int .i64 t592, .int .i64 t593, .slice Ao12 t594.length co12, .slice Ao13 t597.length co13]] rfl (by (try simp only [List.map_toArray, List.map_cons, List.map_nil]); first | done | rfl | (simp only [List.length_drop, List.length_take]; rfl)) ?_; (with_reducible refine (selvedgeref18_Encode.calls kj4 t589 t590 t591 t592 t593 _ _ t594 _ _ t597 t609 t612 _ ?side1 ?side2 ?side3 ?side4 A19.out).mono ?_); (case side1 => repeat (first | exact (Kd.R_reads' HO_588005.out).2.2 | (with_reducible refine Kd.C_alloc ?_ _) | (with_reducible refine Kd.C_drewN ?_ _) | (with_reducible refine Kd.C_drew ?_))); (case side2 => exact (Kd.R_reads' HO_588005.out).2.1); (case side3 => repeat (first | exact (Kd.R_reads' HO_588006.out).2.2 | (with_reducible refine Kd.C_alloc ?_ _) | (with_reducible refine Kd.C_drewN ?_ _) | (with_reducible refine Kd.C_drew ?_))); (case side4 => exact (Kd.R_reads' HO_588006.out).2.1); rintro e w46 ⟨v610, rfl, ho0, hb⟩; refine ⟨_, rfl, ?_⟩; have hone_v610 := Kd.R_one ho0; replace HO_1 := Aside0.mk (Kd.V_elder' (vk HO_1) (Kd.R_base ho0) hb); replace HO_588005 := Aside0.mk (Kd.R_below (rk HO_588005) hb); replace HO_588006 := Aside0.mk (Kd.R_below (rk HO_588006) hb); have HO611 := Aside0.mk (Kd.R_lower (Kd.R_new' (Kd.R_newM (M := fun k_ => (w.heap.size ≤ k_)) ho0 (below_size (bs HB (by simp [ag, GE587.out, GE588.out]))) (fun k_ h_ => h_)) (Kd.R_lt (rk HO607))) (below_size (bs HB (by simp [ag, GE587.out, GE588.out])))); replace HO607 := Aside0.mk (Kd.R_elder' (rk HO607) (Kd.R_base ho0) hb); replace BK587 := Aside0.mk (bb BK587 hb); replace BK588 := Aside0.mk (bb BK588 hb); replace HB := Aside0.mk (below_step (bs HB (by simp [ag, GE587.out, GE588.out])) hb); clear ho0 hb; obtain ⟨Ao47, co47, eo47⟩ := Kd.V_slice HO_1.out; subst eo47) | ((with_reducible refine gate_callee (f := 32) rfl ?_); refine goesL_ (some 42) rfl rfl Try.func32 (by kernel_rfl) rfl #[.slice Ao47 x1_4.length co47] rfl (by simp only [List.map_toArray, List.map_cons, List.map_nil]; first | done | rfl) ?_; (with_reducible refine (cyl_Decode.calls _ _ x1_4 t613 t614 t615 t616 t617 t618 t621 t624 _ ?side1 ?side2 A20.out).mono ?_); (case side1 => repeat (first | exact (Kd.V_reads' HO_1.out).2.2 | (with_reducible refine Kd.C_alloc ?_ _) | (with_reducible refine Kd.C_drewN ?_ _) | (with_reducible refine Kd.C_drew ?_))); (case side2 => exact (Kd.V_reads' HO_1.out).2.1); rintro e w48 ⟨v619, v622, rfl, ho0, ho1, hb⟩; refine ⟨_, rfl, ?_⟩; have hone_v619 := Kd.R_one ho0; have hone_v622 := Kd.R_one ho1; replace HO_1 := Aside0.mk (Kd.V_mono (Kd.V_told (Kd.V_told (Kd.V_old (vk HO_1) hb) (Kd.R_base ho0)) (Kd.R_base ho1)) (fun _ h_ => h_.1)); replace HO607 := Aside0.mk (Kd.R_below (rk HO607) hb); replace HO611 := Aside0.mk (Kd.R_below (rk HO611) hb); have HO620 := Aside0.mk (Kd.R_lower (Kd.R_new' (Kd.R_new' (Kd.R_newM (M := fun k_ => (w.heap.size ≤ k_)) ho0 (below_size (bs HB (by simp [ag, GE587.out, GE588.out]))) (fun k_ h_ => h_)) (Kd.R_lt (rk HO_588005))) (Kd.R_lt (rk HO_588006))) (below_size (bs HB (by simp [ag, GE587.out, GE588.out])))); have HO623 := Aside0.mk (Kd.R_lower (Kd.R_new' (Kd.R_new' (Kd.R_newM (M := fun k_ => (w.heap.size ≤ k_)) ho1 (below_size (bs HB (by simp [ag, GE587.out, GE588.out]))) (fun k_ h_ => h_)) (Kd.R_lt (rk HO_588005))) (Kd.R_lt (rk HO_588006))) (below_size (bs HB (by simp [ag, GE587.out, GE588.out])))); replace HO_588005 := Aside0.mk (Kd.R_mono (Kd.R_told (Kd.R_told (Kd.R_old (rk HO_588005) hb) (Kd.R_base ho0)) (Kd.R_base ho1)) (fun _ h_ => h_.1)); replace HO_588006 := Aside0.mk (Kd.R_mono (Kd.R_told (Kd.R_told (Kd.R_old (rk HO_588006) hb) (Kd.R_base ho0)) (Kd.R_base ho1)) (fun _ h_ => h_.1)); replace BK587 := Aside0.mk (bb BK587 hb); replace BK588 := Aside0.mk (bb BK588 hb); replace HB := Aside0.mk (below_step (bs HB (by simp [ag, GE587.out, GE588.out])) hb); clear ho0 hb; (try clear ho1)) | ((with_reducible refine gate_dst (N := 11) rfl ?_); refine box_event rfl (N := 11) rfl (cs := #[.int .i64 0, .int .i64 0, .int .i64 0, .int .i64 0, .int .i64 0, .slice none 0 0, .slice none 0 0]) (t := 42) (by first | (go_simp; done) | (go_simp; rfl)) ?_; intro gb625 hg w49 hbox hb; replace HO_1 := Aside0.mk (Kd.V_below (Kd.V_elderB (vk HO_1) gb625 (Nat.le_of_eq hg.symm)) hb); replace HO_588005 := Aside0.mk (Kd.R_below (rk HO_588005) hb); replace HO_588006 := Aside0.mk (Kd.R_below (rk HO_588006) hb); replace HO607 := Aside0.mk (Kd.R_below (rk HO607) hb); replace HO611 := Aside0.mk (Kd.R_below (rk HO611) hb); replace HO620 := Aside0.mk (Kd.R_below (rk HO620) hb); replace HO623 := Aside0.mk (Kd.R_below (rk HO623) hb); have BK625 := Aside0.mk (hbox); have GW625 := gl HB hg (by simp [ag, GE587.out, GE588.out]); have GE625 := gl HB hg (by simp [ag, GE587.out, GE588.out]); replace HB := Aside0.mk (below_step (bs HB (by simp [ag, GE587.out, GE588.out])) hb); have NB587_625 := nl BK587 hg; have NB625_587 := nt BK587 hg; replace BK587 := Aside0.mk (bb BK587 hb); have NB588_625 := nl BK588 hg; have NB625_588 := nt BK588 hg; replace BK588 := Aside0.mk (bb BK588 hb); clear hb hbox hg; have hnb50 := NB625_587.out; have hnc50 := NB587_625.out; have hnb51 := NB625_588.out; have hnc51 := NB588_625.out; obtain ⟨hcz52_0, hcz52_1, hcz52_2, hcz52_3, hcz52_4, hcz52_5, hcz52_6, hfz52_0, hfz52_1, hfz52_2, hfz52_3, hfz52_4, hfz52_5, hfz52_6⟩ := cf7 BK625; obtain ⟨Ao53, co53, eo53⟩ := Kd.R_slice HO620.out; subst eo53; obtain ⟨Ao54, co54, eo54⟩ := Kd.R_slice HO623.out; subst eo54) | ((with_reducible refine gate_store (t := 42) (p := 11) rfl ?_); refine store_event (t := 42) (p := 11) (v := ?vo_w55) (w1 := (((((((w49.setCell ⟨gb625, 0, none⟩ (.int .i64 t613)).setCell ⟨gb625, 1, none⟩ (.int .i64 t614)).setCell ⟨gb625, 2, none⟩ (.int .i64 t615)).setCell ⟨gb625, 3, none⟩ (.int .i64 t616)).setCell ⟨gb625, 4, none⟩ (.int .i64 t617)).setCell ⟨gb625, 5, none⟩ (.slice Ao53 t618.length co53)).setCell ⟨gb625, 6, none⟩ (.slice Ao54 t621.length co54))) ?hg ?ho ?hn ?hr ?_; (case ho => rfl); (case hg => rfl); (case hn => rfl); (case hr => first | (go_simp; done) | (go_simp; rfl)); intro w55 hw; have n0_ : Aside0 (Kd.V (Kd.int .u8) 5 w55 w.heap.size (fun k_ => (P1_ k_ ∨ w.heap.size ≤ k_) ∧ nB k_ Ao12 t594 co12 ∧ nB k_ Ao13 t597 co13 ∧ some k_ ≠ (v606 : Value).ownBlock ∧ some k_ ≠ (v610 : Value).ownBlock ∧ nB k_ Ao53 t618 co53 ∧ nB k_ Ao54 t621 co54 ∧ k_ ≠ gb587 ∧ k_ ≠ gb588 ∧ k_ ≠ gb625) (.slice Ao47 x1_4.length co47) x1_4) := ⟨(by rw [hw]; exact (vf7 HO_1.out (fun _ hk => hk.2) (fun _ hk => by (try simp only [nB] at hk ⊢); simp [hk])))⟩; have n1_ : Aside0 (Kd.R (Kd.int .i64) 3 w55 w.heap.size (fun k_ => (w.heap.size ≤ k_) ∧ nB k_ Ao13 t597 co13 ∧ nB k_ Ao53 t618 co53 ∧ nB k_ Ao54 t621 co54) (.slice Ao12 t594.length co12) t594) := ⟨(by rw [hw]; exact (rf7 HO_588005.out BK625.out (by decide) (fun _ hk => by (try simp only [nB] at hk ⊢); simp [hk])))⟩; have n2_ : Aside0 (Kd.R (Kd.int .i64) 3 w55 w.heap.size (fun k_ => (w.heap.size ≤ k_) ∧ nB k_ Ao12 t594 co12 ∧ nB k_ Ao53 t618 co53 ∧ nB k_ Ao54 t621 co54) (.slice Ao13 t597.length co13) t597) := ⟨(by rw [hw]; exact (rf7 HO_588006.out BK625.out (by decide) (fun _ hk => by (try simp only [nB] at hk ⊢); simp [hk])))⟩; have n3_ : Aside0 (Kd.R (Kd.int .u8) 84 w55 w.heap.size (fun k_ => (w.heap.size ≤ k_) ∧ some k_ ≠ (v610 : Value).ownBlock) v606 t605) := ⟨(by rw [hw]; exact (rf7 HO607.out BK625.out (by decide) (fun _ hk => ⟨hk.1.1.1, hk.1.2⟩)))⟩; have n4_ : Aside0 (Kd.R (Kd.int .u8) 5 w55 w.heap.size (fun k_ => (w.heap.size ≤ k_) ∧ some k_ ≠ (v606 : Value).ownBlock) v610 t609) := ⟨(by rw [hw]; exact (rf7 HO611.out BK625.out (by decide) (fun _ hk => ⟨hk.1.1.1, hk.1.2⟩)))⟩; have n5_ : Aside0 (Kd.R (Kd.int .i64) 3 w55 w.heap.size (fun k_ => (w.heap.size ≤ k_) ∧ nB k_ Ao12 t594 co12 ∧ nB k_ Ao13 t597 co13 ∧ nB k_ Ao54 t621 co54) (.slice Ao53 t618.length co53) t618) := ⟨(by rw [hw]; exact (rf7 HO620.out BK625.out (by decide) (fun _ hk => by (try simp only [nB] at hk ⊢); simp [hk])))⟩; have n6_ : Aside0 (Kd.R (Kd.int .i64) 3 w55 w.heap.size (fun k_ => (w.heap.size ≤ k_) ∧ nB k_ Ao12 t594 co12 ∧ nB k_ Ao13 t597 co13 ∧ nB k_ Ao53 t618 co53) (.slice Ao54 t621.length co54) t621) := ⟨(by rw [hw]; exact (rf7 HO623.out BK625.out (by decide) (fun _ hk => by (try simp only [nB] at hk ⊢); simp [hk])))⟩; have n7_ : Aside0 (w55.heap[gb587]? = some (.cells #[.int .i64 t589, .int .i64 t590, .int .i64 t591, .int .i64 t592, .int .i64 t593, .slice Ao12 t594.length co12, .slice Ao13 t597.length co13] 42 (0, 0))) := ⟨(by rw [hw]; exact bf7 BK587.out NB587_625.out)⟩; have n8_ : Aside0 (w55.heap[gb588]? = some (.cells #[.int .i64 a2_0, .int .i64 a2_1] 51 (0, 0))) := ⟨(by rw [hw]; exact bf7 BK588.out NB588_625.out)⟩; have n9_ : Aside0 (w55.heap[gb625]? = some (.cells #[.int .i64 t613, .int .i64 t614, .int .i64 t615, .int .i64 t616, .int .i64 t617, .slice Ao53 t618.length co53, .slice Ao54 t621.length co54] 42 (0, 0))) := ⟨(by rw [hw]; exact bp7 BK625.out)⟩; have n10_ : Aside0 (Below w.heap.size w w55) := ⟨(by rw [hw]; exact (bs HB (by simp [ag, GE587.out, GE588.out, GE625.out])))⟩; clear hw; clear HO_1; clear HO_588005; clear HO_588006; clear HO607; clear HO611; clear HO620; clear HO623; clear BK587; clear BK588; clear BK625; clear HB; have HO_1 := n0_; have HO_588005 := n1_; have HO_588006 := n2_; have HO607 := n3_; have HO611 := n4_; have HO620 := n5_; have HO623 := n6_; have BK587 := n7_; have BK588 := n8_; have BK625 := n9_; have HB := n10_; clear n0_ n1_ n2_ n3_ n4_ n5_ n6_ n7_ n8_ n9_ n10_) | ((with_reducible refine gate_callee (f := 33) rfl ?_); refine goesL_ (some 47) rfl rfl Try.func33 (by kernel_rfl) rfl #[.slice Ao47 x1_4.length co47] rfl (by simp only [List.map_toArray, List.map_cons, List.map_nil]; first | done | rfl) ?_; (with_reducible refine (selvedgeref18_Decode.calls kj4 _ _ x1_4 t626 t627 t628 t629 t630 t631 t634 t637 _ ?side1 ?side2 A21.out).mono ?_); (case side1 => repeat (first | exact (Kd.V_reads' HO_1.out).2.2 | (with_reducible refine Kd.C_alloc ?_ _) | (with_reducible refine Kd.C_drewN ?_ _) | (with_reducible refine Kd.C_drew ?_))); (case side2 => exact (Kd.V_reads' HO_1.out).2.1); rintro e w56 ⟨v632, v635, rfl, ho0, ho1, hb⟩; refine ⟨_, rfl, ?_⟩; have hone_v632 := Kd.R_one ho0; have hone_v635 := Kd.R_one ho1; replace HO_1 := Aside0.mk (Kd.V_mono (Kd.V_told (Kd.V_told (Kd.V_old (vk HO_1) hb) (Kd.R_base ho0)) (Kd.R_base ho1)) (fun _ h_ => h_.1)); replace HO607 := Aside0.mk (Kd.R_below (rk HO607) hb); replace HO611 := Aside0.mk (Kd.R_below (rk HO611) hb); have HO633 := Aside0.mk (Kd.R_lower (Kd.R_new' (Kd.R_new' (Kd.R_new' (Kd.R_new' (Kd.R_newM (M := fun k_ => (w.heap.size ≤ k_)) ho0 (below_size (bs HB (by simp [ag, GE587.out, GE588.out, GE625.out]))) (fun k_ h_ => h_)) (Kd.R_lt (rk HO_588005))) (Kd.R_lt (rk HO_588006))) (Kd.R_lt (rk HO620))) (Kd.R_lt (rk HO623))) (below_size (bs HB (by simp [ag, GE587.out, GE588.out, GE625.out])))); have HO636 := Aside0.mk (Kd.R_lower (Kd.R_new' (Kd.R_new' (Kd.R_new' (Kd.R_new' (Kd.R_newM (M := fun k_ => (w.heap.size ≤ k_)) ho1 (below_size (bs HB (by simp [ag, GE587.out, GE588.out, GE625.out]))) (fun k_ h_ => h_)) (Kd.R_lt (rk HO_588005))) (Kd.R_lt (rk HO_588006))) (Kd.R_lt (rk HO620))) (Kd.R_lt (rk HO623))) (below_size (bs HB (by simp [ag, GE587.out, GE588.out, GE625.out])))); replace HO_588005 := Aside0.mk (Kd.R_mono (Kd.R_told (Kd.R_told (Kd.R_old (rk HO_588005) hb) (Kd.R_base ho0)) (Kd.R_base ho1)) (fun _ h_ => h_.1)); replace HO_588006 := Aside0.mk (Kd.R_mono (Kd.R_told (Kd.R_told (Kd.R_old (rk HO_588006) hb) (Kd.R_base ho0)) (Kd.R_base ho1)) (fun _ h_ => h_.1)); replace HO620 := Aside0.mk (Kd.R_mono (Kd.R_told (Kd.R_told (Kd.R_old (rk HO620) hb) (Kd.R_base ho0)) (Kd.R_base ho1)) (fun _ h_ => h_.1)); replace HO623 := Aside0.mk (Kd.R_mono (Kd.R_told (Kd.R_told (Kd.R_old (rk HO623) hb) (Kd.R_base ho0)) (Kd.R_base ho1)) (fun _ h_ => h_.1)); replace BK587 := Aside0.mk (bb BK587 hb); replace BK588 := Aside0.mk (bb BK588 hb); replace BK625 := Aside0.mk (bb BK625 hb); replace HB := Aside0.mk (below_step (bs HB (by simp [ag, GE587.out, GE588.out, GE625.out])) hb); clear ho0 hb; (try clear ho1)) | ((with_reducible refine gate_dst (N := 13) rfl ?_); refine box_event rfl (N := 13) rfl (cs := #[.int .i64 0, .int .i64 0, .int .i64 0, .int .i64 0, .int .i64 0, .slice none 0 0, .slice none 0 0]) (t := 42) (by first | (go_simp; done) | (go_simp; rfl)) ?_; intro gb638 hg w57 hbox hb; replace HO_1 := Aside0.mk (Kd.V_below (Kd.V_elderB (vk HO_1) gb638 (Nat.le_of_eq hg.symm)) hb); replace HO_588005 := Aside0.mk (Kd.R_below (rk HO_588005) hb); replace HO_588006 := Aside0.mk (Kd.R_below (rk HO_588006) hb); replace HO607 := Aside0.mk (Kd.R_below (rk HO607) hb); replace HO611 := Aside0.mk (Kd.R_below (rk HO611) hb); replace HO620 := Aside0.mk (Kd.R_below (rk HO620) hb); replace HO623 := Aside0.mk (Kd.R_below (rk HO623) hb); replace HO633 := Aside0.mk (Kd.R_below (rk HO633) hb); replace HO636 := Aside0.mk (Kd.R_below (rk HO636) hb); have BK638 := Aside0.mk (hbox); have GW638 := gl HB hg (by simp [ag, GE587.out, GE588.out, GE625.out]); have GE638 := gl HB hg (by simp [ag, GE587.out, GE588.out, GE625.out]); replace HB := Aside0.mk (below_step (bs HB (by simp [ag, GE587.out, GE588.out, GE625.out])) hb); have NB587_638 := nl BK587 hg; have NB638_587 := nt BK587 hg; replace BK587 := Aside0.mk (bb BK587 hb); have NB588_638 := nl BK588 hg; have NB638_588 := nt BK588 hg; replace BK588 := Aside0.mk (bb BK588 hb); have NB625_638 := nl BK625 hg; have NB638_625 := nt BK625 hg; replace BK625 := Aside0.mk (bb BK625 hb); clear hb hbox hg; have hnb58 := NB638_587.out; have hnc58 := NB587_638.out; have hnb59 := NB638_588.out; have hnc59 := NB588_638.out; have hnb60 := NB638_625.out; have hnc60 := NB625_638.out; obtain ⟨hcz61_0, hcz61_1, hcz61_2, hcz61_3, hcz61_4, hcz61_5, hcz61_6, hfz61_0, hfz61_1, hfz61_2, hfz61_3, hfz61_4, hfz61_5, hfz61_6⟩ := cf7 BK638; obtain ⟨Ao62, co62, eo62⟩ := Kd.R_slice HO633.out; subst eo62; obtain ⟨Ao63, co63, eo63⟩ := Kd.R_slice HO636.out; subst eo63) | ((with_reducible refine gate_store (t := 42) (p := 13) rfl ?_); refine store_event (t := 42) (p := 13) (v := ?vo_w64) (w1 := (((((((w57.setCell ⟨gb638, 0, none⟩ (.int .i64 t626)).setCell ⟨gb638, 1, none⟩ (.int .i64 t627)).setCell ⟨gb638, 2, none⟩ (.int .i64 t628)).setCell ⟨gb638, 3, none⟩ (.int .i64 t629)).setCell ⟨gb638, 4, none⟩ (.int .i64 t630)).setCell ⟨gb638, 5, none⟩ (.slice Ao62 t631.length co62)).setCell ⟨gb638, 6, none⟩ (.slice Ao63 t634.length co63))) ?hg ?ho ?hn ?hr ?_; (case ho => rfl); (case hg => rfl); (case hn => rfl); (case hr => first | (go_simp; done) | (go_simp; rfl)); intro w64 hw; have n0_ : Aside0 (Kd.V (Kd.int .u8) 5 w64 w.heap.size (fun k_ => (P1_ k_ ∨ w.heap.size ≤ k_) ∧ nB k_ Ao12 t594 co12 ∧ nB k_ Ao13 t597 co13 ∧ some k_ ≠ (v606 : Value).ownBlock ∧ some k_ ≠ (v610 : Value).ownBlock ∧ nB k_ Ao53 t618 co53 ∧ nB k_ Ao54 t621 co54 ∧ nB k_ Ao62 t631 co62 ∧ nB k_ Ao63 t634 co63 ∧ k_ ≠ gb587 ∧ k_ ≠ gb588 ∧ k_ ≠ gb625 ∧ k_ ≠ gb638) (.slice Ao47 x1_4.length co47) x1_4) := ⟨(by rw [hw]; exact (vf7 HO_1.out (fun _ hk => hk.2) (fun _ hk => by (try simp only [nB] at hk ⊢); simp [hk])))⟩; have n1_ : Aside0 (Kd.R (Kd.int .i64) 3 w64 w.heap.size (fun k_ => (w.heap.size ≤ k_) ∧ nB k_ Ao13 t597 co13 ∧ nB k_ Ao53 t618 co53 ∧ nB k_ Ao54 t621 co54 ∧ nB k_ Ao62 t631 co62 ∧ nB k_ Ao63 t634 co63) (.slice Ao12 t594.length co12) t594) := ⟨(by rw [hw]; exact (rf7 HO_588005.out BK638.out (by decide) (fun _ hk => by (try simp only [nB] at hk ⊢); simp [hk])))⟩; have n2_ : Aside0 (Kd.R (Kd.int .i64) 3 w64 w.heap.size (fun k_ => (w.heap.size ≤ k_) ∧ nB k_ Ao12 t594 co12 ∧ nB k_ Ao53 t618 co53 ∧ nB k_ Ao54 t621 co54 ∧ nB k_ Ao62 t631 co62 ∧ nB k_ Ao63 t634 co63) (.slice Ao13 t597.length co13) t597) := ⟨(by rw [hw]; exact (rf7 HO_588006.out BK638.out (by decide) (fun _ hk => by (try simp only [nB] at hk ⊢); simp [hk])))⟩; have n3_ : Aside0 (Kd.R (Kd.int .u8) 84 w64 w.heap.size (fun k_ => (w.heap.size ≤ k_) ∧ some k_ ≠ (v610 : Value).ownBlock) v606 t605) := ⟨(by rw [hw]; exact (rf7 HO607.out BK638.out (by decide) (fun _ hk => ⟨hk.1.1, hk.1.2⟩)))⟩; have n4_ : Aside0 (Kd.R (Kd.int .u8) 5 w64 w.heap.size (fun k_ => (w.heap.size ≤ k_) ∧ some k_ ≠ (v606 : Value).ownBlock) v610 t609) := ⟨(by rw [hw]; exact (rf7 HO611.out BK638.out (by decide) (fun _ hk => ⟨hk.1.1, hk.1.2⟩)))⟩; have n5_ : Aside0 (Kd.R (Kd.int .i64) 3 w64 w.heap.size (fun k_ => (w.heap.size ≤ k_) ∧ nB k_ Ao12 t594 co12 ∧ nB k_ Ao13 t597 co13 ∧ nB k_ Ao54 t621 co54 ∧ nB k_ Ao62 t631 co62 ∧ nB k_ Ao63 t634 co63) (.slice Ao53 t618.length co53) t618) := ⟨(by rw [hw]; exact (rf7 HO620.out BK638.out (by decide) (fun _ hk => by (try simp only [nB] at hk ⊢); simp [hk])))⟩; have n6_ : Aside0 (Kd.R (Kd.int .i64) 3 w64 w.heap.size (fun k_ => (w.heap.size ≤ k_) ∧ nB k_ Ao12 t594 co12 ∧ nB k_ Ao13 t597 co13 ∧ nB k_ Ao53 t618 co53 ∧ nB k_ Ao62 t631 co62 ∧ nB k_ Ao63 t634 co63) (.slice Ao54 t621.length co54) t621) := ⟨(by rw [hw]; exact (rf7 HO623.out BK638.out (by decide) (fun _ hk => by (try simp only [nB] at hk ⊢); simp [hk])))⟩; have n7_ : Aside0 (Kd.R (Kd.int .i64) 3 w64 w.heap.size (fun k_ => (w.heap.size ≤ k_) ∧ nB k_ Ao12 t594 co12 ∧ nB k_ Ao13 t597 co13 ∧ nB k_ Ao53 t618 co53 ∧ nB k_ Ao54 t621 co54 ∧ nB k_ Ao63 t634 co63) (.slice Ao62 t631.length co62) t631) := ⟨(by rw [hw]; exact (rf7 HO633.out BK638.out (by decide) (fun _ hk => by (try simp only [nB] at hk ⊢); simp [hk])))⟩; have n8_ : Aside0 (Kd.R (Kd.int .i64) 3 w64 w.heap.size (fun k_ => (w.heap.size ≤ k_) ∧ nB k_ Ao12 t594 co12 ∧ nB k_ Ao13 t597 co13 ∧ nB k_ Ao53 t618 co53 ∧ nB k_ Ao54 t621 co54 ∧ nB k_ Ao62 t631 co62) (.slice Ao63 t634.length co63) t634) := ⟨(by rw [hw]; exact (rf7 HO636.out BK638.out (by decide) (fun _ hk => by (try simp only [nB] at hk ⊢); simp [hk])))⟩; have n9_ : Aside0 (w64.heap[gb587]? = some (.cells #[.int .i64 t589, .int .i64 t590, .int .i64 t591, .int .i64 t592, .int .i64 t593, .slice Ao12 t594.length co12, .slice Ao13 t597.length co13] 42 (0, 0))) := ⟨(by rw [hw]; exact bf7 BK587.out NB587_638.out)⟩; have n10_ : Aside0 (w64.heap[gb588]? = some (.cells #[.int .i64 a2_0, .int .i64 a2_1] 51 (0, 0))) := ⟨(by rw [hw]; exact bf7 BK588.out NB588_638.out)⟩; have n11_ : Aside0 (w64.heap[gb625]? = some (.cells #[.int .i64 t613, .int .i64 t614, .int .i64 t615, .int .i64 t616, .int .i64 t617, .slice Ao53 t618.length co53, .slice Ao54 t621.length co54] 42 (0, 0))) := ⟨(by rw [hw]; exact bf7 BK625.out NB625_638.out)⟩; have n12_ : Aside0 (w64.heap[gb638]? = some (.cells #[.int .i64 t626, .int .i64 t627, .int .i64 t628, .int .i64 t629, .int .i64 t630, .slice Ao62 t631.length co62, .slice Ao63 t634.length co63] 42 (0, 0))) := ⟨(by rw [hw]; exact bp7 BK638.out)⟩; have n13_ : Aside0 (Below w.heap.size w w64) := ⟨(by rw [hw]; exact (bs HB (by simp [ag, GE587.out, GE588.out, GE625.out, GE638.out])))⟩; clear hw; clear HO_1; clear HO_588005; clear HO_588006; clear HO607; clear HO611; clear HO620; clear HO623; clear HO633; clear HO636; clear BK587; clear BK588; clear BK625; clear BK638; clear HB; have HO_1 := n0_; have HO_588005 := n1_; have HO_588006 := n2_; have HO607 := n3_; have HO611 := n4_; have HO620 := n5_; have HO623 := n6_; have HO633 := n7_; have HO636 := n8_; have BK587 := n9_; have BK588 := n10_; have BK625 := n11_; have BK638 := n12_; have HB := n13_; clear n0_ n1_ n2_ n3_ n4_ n5_ n6_ n7_ n8_ n9_ n10_ n11_ n12_ n13_; obtain ⟨hcz65_0, hcz65_1, hcz65_2, hcz65_3, hcz65_4, hcz65_5, hcz65_6, hfz65_0, hfz65_1, hfz65_2, hfz65_3, hfz65_4, hfz65_5, hfz65_6⟩ := cf7 BK587) | ((with_reducible refine gate_callee (f := 34) rfl ?_); refine goesL_ (some 52) rfl rfl Try.func34 (by kernel_rfl) rfl #[.agg #[.int .i64 t589, .int .i64 t590, .int .i64 t591, .int .i64 t592, .int .i64 t593, .slice Ao12 t594.length co12, .slice Ao13 t597.length co13]] rfl (by (try simp only [List.map_toArray, List.map_cons, List.map_nil]); first | done | rfl | (simp only [List.length_drop, List.length_take]; rfl)) ?_; (with_reducible refine (cyl_Rebuild.calls kj4 t589 t590 t591 t592 t593 _ _ t594 _ _ t597 t639 t640 t641 t642 t643 t644 t647 t650 _ ?side1 ?side2 ?side3 ?side4 A22.out).mono ?_); (case side1 => repeat (first | exact (Kd.R_reads' HO_588005.out).2.2 | (with_reducible refine Kd.C_alloc ?_ _) | (with_reducible refine Kd.C_drewN ?_ _) | (with_reducible refine Kd.C_drew ?_))); (case side2 => exact (Kd.R_reads' HO_588005.out).2.1); (case side3 => repeat (first | exact (Kd.R_reads' HO_588006.out).2.2 | (with_reducible refine Kd.C_alloc ?_ _) | (with_reducible refine Kd.C_drewN ?_ _) | (with_reducible refine Kd.C_drew ?_))); (case side4 => exact (Kd.R_reads' HO_588006.out).2.1); rintro e w66 ⟨v645, v648, rfl, ho0, ho1, hb⟩; refine ⟨_, rfl, ?_⟩; have hone_v645 := Kd.R_one ho0; have hone_v648 := Kd.R_one ho1; replace HO_1 := Aside0.mk (Kd.V_mono (Kd.V_told (Kd.V_told (Kd.V_old (vk HO_1) hb) (Kd.R_base ho0)) (Kd.R_base ho1)) (fun _ h_ => h_.1)); replace HO607 := Aside0.mk (Kd.R_below (rk HO607) hb); replace HO611 := Aside0.mk (Kd.R_below (rk HO611) hb); have HO646 := Aside0.mk (Kd.R_lower (Kd.R_new' (Kd.R_new' (Kd.R_new' (Kd.R_new' (Kd.R_new' (Kd.R_new' (Kd.R_newM (M := fun k_ => (w.heap.size ≤ k_)) ho0 (below_size (bs HB (by simp [ag, GE587.out, GE588.out, GE625.out, GE638.out]))) (fun k_ h_ => h_)) (Kd.R_lt (rk HO_588005))) (Kd.R_lt (rk HO_588006))) (Kd.R_lt (rk HO620))) (Kd.R_lt (rk HO623))) (Kd.R_lt (rk HO633))) (Kd.R_lt (rk HO636))) (below_size (bs HB (by simp [ag, GE587.out, GE588.out, GE625.out, GE638.out])))); have HO649 := Aside0.mk (Kd.R_lower (Kd.R_new' (Kd.R_new' (Kd.R_new' (Kd.R_new' (Kd.R_new' (Kd.R_new' (Kd.R_newM (M := fun k_ => (w.heap.size ≤ k_)) ho1 (below_size (bs HB (by simp [ag, GE587.out, GE588.out, GE625.out, GE638.out]))) (fun k_ h_ => h_)) (Kd.R_lt (rk HO_588005))) (Kd.R_lt (rk HO_588006))) (Kd.R_lt (rk HO620))) (Kd.R_lt (rk HO623))) (Kd.R_lt (rk HO633))) (Kd.R_lt (rk HO636))) (below_size (bs HB (by simp [ag, GE587.out, GE588.out, GE625.out, GE638.out])))); replace HO_588005 := Aside0.mk (Kd.R_mono (Kd.R_told (Kd.R_told (Kd.R_old (rk HO_588005) hb) (Kd.R_base ho0)) (Kd.R_base ho1)) (fun _ h_ => h_.1)); replace HO_588006 := Aside0.mk (Kd.R_mono (Kd.R_told (Kd.R_told (Kd.R_old (rk HO_588006) hb) (Kd.R_base ho0)) (Kd.R_base ho1)) (fun _ h_ => h_.1)); replace HO620 := Aside0.mk (Kd.R_mono (Kd.R_told (Kd.R_told (Kd.R_old (rk HO620) hb) (Kd.R_base ho0)) (Kd.R_base ho1)) (fun _ h_ => h_.1)); replace HO623 := Aside0.mk (Kd.R_mono (Kd.R_told (Kd.R_told (Kd.R_old (rk HO623) hb) (Kd.R_base ho0)) (Kd.R_base ho1)) (fun _ h_ => h_.1)); replace HO633 := Aside0.mk (Kd.R_mono (Kd.R_told (Kd.R_told (Kd.R_old (rk HO633) hb) (Kd.R_base ho0)) (Kd.R_base ho1)) (fun _ h_ => h_.1)); replace HO636 := Aside0.mk (Kd.R_mono (Kd.R_told (Kd.R_told (Kd.R_old (rk HO636) hb) (Kd.R_base ho0)) (Kd.R_base ho1)) (fun _ h_ => h_.1)); replace BK587 := Aside0.mk (bb BK587 hb); replace BK588 := Aside0.mk (bb BK588 hb); replace BK625 := Aside0.mk (bb BK625 hb); replace BK638 := Aside0.mk (bb BK638 hb); replace HB := Aside0.mk (below_step (bs HB (by simp [ag, GE587.out, GE588.out, GE625.out, GE638.out])) hb); clear ho0 hb; (try clear ho1)) | ((with_reducible refine gate_dst (N := 15) rfl ?_); refine box_event rfl (N := 15) rfl (cs := #[.int .i64 0, .int .i64 0, .int .i64 0, .int .i64 0, .int .i64 0, .slice none 0 0, .slice none 0 0]) (t := 42) (by first | (go_simp; done) | (go_simp; rfl)) ?_; intro gb651 hg w67 hbox hb; replace HO_1 := Aside0.mk (Kd.V_below (Kd.V_elderB (vk HO_1) gb651 (Nat.le_of_eq hg.symm)) hb); replace HO_588005 := Aside0.mk (Kd.R_below (rk HO_588005) hb); replace HO_588006 := Aside0.mk (Kd.R_below (rk HO_588006) hb); replace HO607 := Aside0.mk (Kd.R_below (rk HO607) hb); replace HO611 := Aside0.mk (Kd.R_below (rk HO611) hb); replace HO620 := Aside0.mk (Kd.R_below (rk HO620) hb); replace HO623 := Aside0.mk (Kd.R_below (rk HO623) hb); replace HO633 := Aside0.mk (Kd.R_below (rk HO633) hb); replace HO636 := Aside0.mk (Kd.R_below (rk HO636) hb); replace HO646 := Aside0.mk (Kd.R_below (rk HO646) hb); replace HO649 := Aside0.mk (Kd.R_below (rk HO649) hb); have BK651 := Aside0.mk (hbox); have GW651 := gl HB hg (by simp [ag, GE587.out, GE588.out, GE625.out, GE638.out]); have GE651 := gl HB hg (by simp [ag, GE587.out, GE588.out, GE625.out, GE638.out]); replace HB := Aside0.mk (below_step (bs HB (by simp [ag, GE587.out, GE588.out, GE625.out, GE638.out])) hb); have NB587_651 := nl BK587 hg; have NB651_587 := nt BK587 hg; replace BK587 := Aside0.mk (bb BK587 hb); have NB588_651 := nl BK588 hg; have NB651_588 := nt BK588 hg; replace BK588 := Aside0.mk (bb BK588 hb); have NB625_651 := nl BK625 hg; have NB651_625 := nt BK625 hg; replace BK625 := Aside0.mk (bb BK625 hb); have NB638_651 := nl BK638 hg; have NB651_638 := nt BK638 hg; replace BK638 := Aside0.mk (bb BK638 hb); clear hb hbox hg; have hnb68 := NB651_587.out; have hnc68 := NB587_651.out; have hnb69 := NB651_588.out; have hnc69 := NB588_651.out; have hnb70 := NB651_625.out; have hnc70 := NB625_651.out; have hnb71 := NB651_638.out; have hnc71 := NB638_651.out; obtain ⟨hcz72_0, hcz72_1, hcz72_2, hcz72_3, hcz72_4, hcz72_5, hcz72_6, hfz72_0, hfz72_1, hfz72_2, hfz72_3, hfz72_4, hfz72_5, hfz72_6⟩ := cf7 BK651; obtain ⟨Ao73, co73, eo73⟩ := Kd.R_slice HO646.out; subst eo73; obtain ⟨Ao74, co74, eo74⟩ := Kd.R_slice HO649.out; subst eo74) | ((with_reducible refine gate_store (t := 42) (p := 15) rfl ?_); refine store_event (t := 42) (p := 15) (v := ?vo_w75) (w1 := (((((((w67.setCell ⟨gb651, 0, none⟩ (.int .i64 t639)).setCell ⟨gb651, 1, none⟩ (.int .i64 t640)).setCell ⟨gb651, 2, none⟩ (.int .i64 t641)).setCell ⟨gb651, 3, none⟩ (.int .i64 t642)).setCell ⟨gb651, 4, none⟩ (.int .i64 t643)).setCell ⟨gb651, 5, none⟩ (.slice Ao73 t644.length co73)).setCell ⟨gb651, 6, none⟩ (.slice Ao74 t647.length co74))) ?hg ?ho ?hn ?hr ?_; (case ho => rfl); (case hg => rfl); (case hn => rfl); (case hr => first | (go_simp; done) | (go_simp; rfl)); intro w75 hw; have n0_ : Aside0 (Kd.V (Kd.int .u8) 5 w75 w.heap.size (fun k_ => (P1_ k_ ∨ w.heap.size ≤ k_) ∧ nB k_ Ao12 t594 co12 ∧ nB k_ Ao13 t597 co13 ∧ some k_ ≠ (v606 : Value).ownBlock ∧ some k_ ≠ (v610 : Value).ownBlock ∧ nB k_ Ao53 t618 co53 ∧ nB k_ Ao54 t621 co54 ∧ nB k_ Ao62 t631 co62 ∧ nB k_ Ao63 t634 co63 ∧ nB k_ Ao73 t644 co73 ∧ nB k_ Ao74 t647 co74 ∧ k_ ≠ gb587 ∧ k_ ≠ gb588 ∧ k_ ≠ gb625 ∧ k_ ≠ gb638 ∧ k_ ≠ gb651) (.slice Ao47 x1_4.length co47) x1_4) := ⟨(by rw [hw]; exact (vf7 HO_1.out (fun _ hk => hk.2) (fun _ hk => by (try simp only [nB] at hk ⊢); simp [hk])))⟩; have n1_ : Aside0 (Kd.R (Kd.int .i64) 3 w75 w.heap.size (fun k_ => (w.heap.size ≤ k_) ∧ nB k_ Ao13 t597 co13 ∧ nB k_ Ao53 t618 co53 ∧ nB k_ Ao54 t621 co54 ∧ nB k_ Ao62 t631 co62 ∧ nB k_ Ao63 t634 co63 ∧ nB k_ Ao73 t644 co73 ∧ nB k_ Ao74 t647 co74) (.slice Ao12 t594.length co12) t594) := ⟨(by rw [hw]; exact (rf7 HO_588005.out BK651.out (by decide) (fun _ hk => by (try simp only [nB] at hk ⊢); simp [hk])))⟩; have n2_ : Aside0 (Kd.R (Kd.int .i64) 3 w75 w.heap.size (fun k_ => (w.heap.size ≤ k_) ∧ nB k_ Ao12 t594 co12 ∧ nB k_ Ao53 t618 co53 ∧ nB k_ Ao54 t621 co54 ∧ nB k_ Ao62 t631 co62 ∧ nB k_ Ao63 t634 co63 ∧ nB k_ Ao73 t644 co73 ∧ nB k_ Ao74 t647 co74) (.slice Ao13 t597.length co13) t597) := ⟨(by rw [hw]; exact (rf7 HO_588006.out BK651.out (by decide) (fun _ hk => by (try simp only [nB] at hk ⊢); simp [hk])))⟩; have n3_ : Aside0 (Kd.R (Kd.int .u8) 84 w75 w.heap.size (fun k_ => (w.heap.size ≤ k_) ∧ some k_ ≠ (v610 : Value).ownBlock) v606 t605) := ⟨(by rw [hw]; exact (rf7 HO607.out BK651.out (by decide) (fun _ hk => ⟨hk.1.1, hk.1.2⟩)))⟩; have n4_ : Aside0 (Kd.R (Kd.int .u8) 5 w75 w.heap.size (fun k_ => (w.heap.size ≤ k_) ∧ some k_ ≠ (v606 : Value).ownBlock) v610 t609) := ⟨(by rw [hw]; exact (rf7 HO611.out BK651.out (by decide) (fun _ hk => ⟨hk.1.1, hk.1.2⟩)))⟩; have n5_ : Aside0 (Kd.R (Kd.int .i64) 3 w75 w.heap.size (fun k_ => (w.heap.size ≤ k_) ∧ nB k_ Ao12 t594 co12 ∧ nB k_ Ao13 t597 co13 ∧ nB k_ Ao54 t621 co54 ∧ nB k_ Ao62 t631 co62 ∧ nB k_ Ao63 t634 co63 ∧ nB k_ Ao73 t644 co73 ∧ nB k_ Ao74 t647 co74) (.slice Ao53 t618.length co53) t618) := ⟨(by rw [hw]; exact (rf7 HO620.out BK651.out (by decide) (fun _ hk => by (try simp only [nB] at hk ⊢); simp [hk])))⟩; have n6_ : Aside0 (Kd.R (Kd.int .i64) 3 w75 w.heap.size (fun k_ => (w.heap.size ≤ k_) ∧ nB k_ Ao12 t594 co12 ∧ nB k_ Ao13 t597 co13 ∧ nB k_ Ao53 t618 co53 ∧ nB k_ Ao62 t631 co62 ∧ nB k_ Ao63 t634 co63 ∧ nB k_ Ao73 t644 co73 ∧ nB k_ Ao74 t647 co74) (.slice Ao54 t621.length co54) t621) := ⟨(by rw [hw]; exact (rf7 HO623.out BK651.out (by decide) (fun _ hk => by (try simp only [nB] at hk ⊢); simp [hk])))⟩; have n7_ : Aside0 (Kd.R (Kd.int .i64) 3 w75 w.heap.size (fun k_ => (w.heap.size ≤ k_) ∧ nB k_ Ao12 t594 co12 ∧ nB k_ Ao13 t597 co13 ∧ nB k_ Ao53 t618 co53 ∧ nB k_ Ao54 t621 co54 ∧ nB k_ Ao63 t634 co63 ∧ nB k_ Ao73 t644 co73 ∧ nB k_ Ao74 t647 co74) (.slice Ao62 t631.length co62) t631) := ⟨(by rw [hw]; exact (rf7 HO633.out BK651.out (by decide) (fun _ hk => by (try simp only [nB] at hk ⊢); simp [hk])))⟩; have n8_ : Aside0 (Kd.R (Kd.int .i64) 3 w75 w.heap.size (fun k_ => (w.heap.size ≤ k_) ∧ nB k_ Ao12 t594 co12 ∧ nB k_ Ao13 t597 co13 ∧ nB k_ Ao53 t618 co53 ∧ nB k_ Ao54 t621 co54 ∧ nB k_ Ao62 t631 co62 ∧ nB k_ Ao73 t644 co73 ∧ nB k_ Ao74 t647 co74) (.slice Ao63 t634.length co63) t634) := ⟨(by rw [hw]; exact (rf7 HO636.out BK651.out (by decide) (fun _ hk => by (try simp only [nB] at hk ⊢); simp [hk])))⟩; have n9_ : Aside0 (Kd.R (Kd.int .i64) 3 w75 w.heap.size (fun k_ => (w.heap.size ≤ k_) ∧ nB k_ Ao12 t594 co12 ∧ nB k_ Ao13 t597 co13 ∧ nB k_ Ao53 t618 co53 ∧ nB k_ Ao54 t621 co54 ∧ nB k_ Ao62 t631 co62 ∧ nB k_ Ao63 t634 co63 ∧ nB k_ Ao74 t647 co74) (.slice Ao73 t644.length co73) t644) := ⟨(by rw [hw]; exact (rf7 HO646.out BK651.out (by decide) (fun _ hk => by (try simp only [nB] at hk ⊢); simp [hk])))⟩; have n10_ : Aside0 (Kd.R (Kd.int .i64) 3 w75 w.heap.size (fun k_ => (w.heap.size ≤ k_) ∧ nB k_ Ao12 t594 co12 ∧ nB k_ Ao13 t597 co13 ∧ nB k_ Ao53 t618 co53 ∧ nB k_ Ao54 t621 co54 ∧ nB k_ Ao62 t631 co62 ∧ nB k_ Ao63 t634 co63 ∧ nB k_ Ao73 t644 co73) (.slice Ao74 t647.length co74) t647) := ⟨(by rw [hw]; exact (rf7 HO649.out BK651.out (by decide) (fun _ hk => by (try simp only [nB] at hk ⊢); simp [hk])))⟩; have n11_ : Aside0 (w75.heap[gb587]? = some (.cells #[.int .i64 t589, .int .i64 t590, .int .i64 t591, .int .i64 t592, .int .i64 t593, .slice Ao12 t594.length co12, .slice Ao13 t597.length co13] 42 (0, 0))) := ⟨(by rw [hw]; exact bf7 BK587.out NB587_651.out)⟩; have n12_ : Aside0 (w75.heap[gb588]? = some (.cells #[.int .i64 a2_0, .int .i64 a2_1] 51 (0, 0))) := ⟨(by rw [hw]; exact bf7 BK588.out NB588_651.out)⟩; have n13_ : Aside0 (w75.heap[gb625]? = some (.cells #[.int .i64 t613, .int .i64 t614, .int .i64 t615, .int .i64 t616, .int .i64 t617, .slice Ao53 t618.length co53, .slice Ao54 t621.length co54] 42 (0, 0))) := ⟨(by rw [hw]; exact bf7 BK625.out NB625_651.out)⟩; have n14_ : Aside0 (w75.heap[gb638]? = some (.cells #[.int .i64 t626, .int .i64 t627, .int .i64 t628, .int .i64 t629, .int .i64 t630, .slice Ao62 t631.length co62, .slice Ao63 t634.length co63] 42 (0, 0))) := ⟨(by rw [hw]; exact bf7 BK638.out NB638_651.out)⟩; have n15_ : Aside0 (w75.heap[gb651]? = some (.cells #[.int .i64 t639, .int .i64 t640, .int .i64 t641, .int .i64 t642, .int .i64 t643, .slice Ao73 t644.length co73, .slice Ao74 t647.length co74] 42 (0, 0))) := ⟨(by rw [hw]; exact bp7 BK651.out)⟩; have n16_ : Aside0 (Below w.heap.size w w75) := ⟨(by rw [hw]; exact (bs HB (by simp [ag, GE587.out, GE588.out, GE625.out, GE638.out, GE651.out])))⟩; clear hw; clear HO_1; clear HO_588005; clear HO_588006; clear HO607; clear HO611; clear HO620; clear HO623; clear HO633; clear HO636; clear HO646; clear HO649; clear BK587; clear BK588; clear BK625; clear BK638; clear BK651; clear HB; have HO_1 := n0_; have HO_588005 := n1_; have HO_588006 := n2_; have HO607 := n3_; have HO611 := n4_; have HO620 := n5_; have HO623 := n6_; have HO633 := n7_; have HO636 := n8_; have HO646 := n9_; have HO649 := n10_; have BK587 := n11_; have BK588 := n12_; have BK625 := n13_; have BK638 := n14_; have BK651 := n15_; have HB := n16_; clear n0_ n1_ n2_ n3_ n4_ n5_ n6_ n7_ n8_ n9_ n10_ n11_ n12_ n13_ n14_ n15_ n16_; obtain ⟨hcz76_0, hcz76_1, hcz76_2, hcz76_3, hcz76_4, hcz76_5, hcz76_6, hfz76_0, hfz76_1, hfz76_2, hfz76_3, hfz76_4, hfz76_5, hfz76_6⟩ := cf7 BK587) | ((with_reducible refine gate_callee (f := 35) rfl ?_); refine goesL_ (some 57) rfl rfl Try.func35 (by kernel_rfl) rfl #[.agg #[.int .i64 t589, .int .i64 t590, .int .i64 t591, .int .i64 t592, .int .i64 t593, .slice Ao12 t594.length co12, .slice Ao13 t597.length co13]] rfl (by (try simp only [List.map_toArray, List.map_cons, List.map_nil]); first | done | rfl | (simp only [List.length_drop, List.length_take]; rfl)) ?_; (with_reducible refine (selvedgeref18_Rebuild.calls kj4 t589 t590 t591 t592 t593 _ _ t594 _ _ t597 t652 t653 t654 t655 t656 t657 t660 t663 _ ?side1 ?side2 ?side3 ?side4 A23.out).mono ?_); (case side1 => repeat (first | exact (Kd.R_reads' HO_588005.out).2.2 | (with_reducible refine Kd.C_alloc ?_ _) | (with_reducible refine Kd.C_drewN ?_ _) | (with_reducible refine Kd.C_drew ?_))); (case side2 => exact (Kd.R_reads' HO_588005.out).2.1); (case side3 => repeat (first | exact (Kd.R_reads' HO_588006.out).2.2 | (with_reducible refine Kd.C_alloc ?_ _) | (with_reducible refine Kd.C_drewN ?_ _) | (with_reducible refine Kd.C_drew ?_))); (case side4 => exact (Kd.R_reads' HO_588006.out).2.1); rintro e w77 ⟨v658, v661, rfl, ho0, ho1, hb⟩; refine ⟨_, rfl, ?_⟩; have hone_v658 := Kd.R_one ho0; have hone_v661 := Kd.R_one ho1; replace HO_1 := Aside0.mk (Kd.V_mono (Kd.V_told (Kd.V_told (Kd.V_old (vk HO_1) hb) (Kd.R_base ho0)) (Kd.R_base ho1)) (fun _ h_ => h_.1)); replace HO607 := Aside0.mk (Kd.R_below (rk HO607) hb); replace HO611 := Aside0.mk (Kd.R_below (rk HO611) hb); have HO659 := Aside0.mk (Kd.R_lower (Kd.R_new' (Kd.R_new' (Kd.R_new' (Kd.R_new' (Kd.R_new' (Kd.R_new' (Kd.R_new' (Kd.R_new' (Kd.R_newM (M := fun k_ => (w.heap.size ≤ k_)) ho0 (below_size (bs HB (by simp [ag, GE587.out, GE588.out, GE625.out, GE638.out, GE651.out]))) (fun k_ h_ => h_)) (Kd.R_lt (rk HO_588005))) (Kd.R_lt (rk HO_588006))) (Kd.R_lt (rk HO620))) (Kd.R_lt (rk HO623))) (Kd.R_lt (rk HO633))) (Kd.R_lt (rk HO636))) (Kd.R_lt (rk HO646))) (Kd.R_lt (rk HO649))) (below_size (bs HB (by simp [ag, GE587.out, GE588.out, GE625.out, GE638.out, GE651.out])))); have HO662 := Aside0.mk (Kd.R_lower (Kd.R_new' (Kd.R_new' (Kd.R_new' (Kd.R_new' (Kd.R_new' (Kd.R_new' (Kd.R_new' (Kd.R_new' (Kd.R_newM (M := fun k_ => (w.heap.size ≤ k_)) ho1 (below_size (bs HB (by simp [ag, GE587.out, GE588.out, GE625.out, GE638.out, GE651.out]))) (fun k_ h_ => h_)) (Kd.R_lt (rk HO_588005))) (Kd.R_lt (rk HO_588006))) (Kd.R_lt (rk HO620))) (Kd.R_lt (rk HO623))) (Kd.R_lt (rk HO633))) (Kd.R_lt (rk HO636))) (Kd.R_lt (rk HO646))) (Kd.R_lt (rk HO649))) (below_size (bs HB (by simp [ag, GE587.out, GE588.out, GE625.out, GE638.out, GE651.out])))); replace HO_588005 := Aside0.mk (Kd.R_mono (Kd.R_told (Kd.R_told (Kd.R_old (rk HO_588005) hb) (Kd.R_base ho0)) (Kd.R_base ho1)) (fun _ h_ => h_.1)); replace HO_588006 := Aside0.mk (Kd.R_mono (Kd.R_told (Kd.R_told (Kd.R_old (rk HO_588006) hb) (Kd.R_base ho0)) (Kd.R_base ho1)) (fun _ h_ => h_.1)); replace HO620 := Aside0.mk (Kd.R_mono (Kd.R_told (Kd.R_told (Kd.R_old (rk HO620) hb) (Kd.R_base ho0)) (Kd.R_base ho1)) (fun _ h_ => h_.1)); replace HO623 := Aside0.mk (Kd.R_mono (Kd.R_told (Kd.R_told (Kd.R_old (rk HO623) hb) (Kd.R_base ho0)) (Kd.R_base ho1)) (fun _ h_ => h_.1)); replace HO633 := Aside0.mk (Kd.R_mono (Kd.R_told (Kd.R_told (Kd.R_old (rk HO633) hb) (Kd.R_base ho0)) (Kd.R_base ho1)) (fun _ h_ => h_.1)); replace HO636 := Aside0.mk (Kd.R_mono (Kd.R_told (Kd.R_told (Kd.R_old (rk HO636) hb) (Kd.R_base ho0)) (Kd.R_base ho1)) (fun _ h_ => h_.1)); replace HO646 := Aside0.mk (Kd.R_mono (Kd.R_told (Kd.R_told (Kd.R_old (rk HO646) hb) (Kd.R_base ho0)) (Kd.R_base ho1)) (fun _ h_ => h_.1)); replace HO649 := Aside0.mk (Kd.R_mono (Kd.R_told (Kd.R_told (Kd.R_old (rk HO649) hb) (Kd.R_base ho0)) (Kd.R_base ho1)) (fun _ h_ => h_.1)); replace BK587 := Aside0.mk (bb BK587 hb); replace BK588 := Aside0.mk (bb BK588 hb); replace BK625 := Aside0.mk (bb BK625 hb); replace BK638 := Aside0.mk (bb BK638 hb); replace BK651 := Aside0.mk (bb BK651 hb); replace HB := Aside0.mk (below_step (bs HB (by simp [ag, GE587.out, GE588.out, GE625.out, GE638.out, GE651.out])) hb); clear ho0 hb; (try clear ho1)) | ((with_reducible refine gate_dst (N := 17) rfl ?_); refine box_event rfl (N := 17) rfl (cs := #[.int .i64 0, .int .i64 0, .int .i64 0, .int .i64 0, .int .i64 0, .slice none 0 0, .slice none 0 0]) (t := 42) (by first | (go_simp; done) | (go_simp; rfl)) ?_; intro gb664 hg w78 hbox hb; replace HO_1 := Aside0.mk (Kd.V_below (Kd.V_elderB (vk HO_1) gb664 (Nat.le_of_eq hg.symm)) hb); replace HO_588005 := Aside0.mk (Kd.R_below (rk HO_588005) hb); replace HO_588006 := Aside0.mk (Kd.R_below (rk HO_588006) hb); replace HO607 := Aside0.mk (Kd.R_below (rk HO607) hb); replace HO611 := Aside0.mk (Kd.R_below (rk HO611) hb); replace HO620 := Aside0.mk (Kd.R_below (rk HO620) hb); replace HO623 := Aside0.mk (Kd.R_below (rk HO623) hb); replace HO633 := Aside0.mk (Kd.R_below (rk HO633) hb); replace HO636 := Aside0.mk (Kd.R_below (rk HO636) hb); replace HO646 := Aside0.mk (Kd.R_below (rk HO646) hb); replace HO649 := Aside0.mk (Kd.R_below (rk HO649) hb); replace HO659 := Aside0.mk (Kd.R_below (rk HO659) hb); replace HO662 := Aside0.mk (Kd.R_below (rk HO662) hb); have BK664 := Aside0.mk (hbox); have GW664 := gl HB hg (by simp [ag, GE587.out, GE588.out, GE625.out, GE638.out, GE651.out]); have GE664 := gl HB hg (by simp [ag, GE587.out, GE588.out, GE625.out, GE638.out, GE651.out]); replace HB := Aside0.mk (below_step (bs HB (by simp [ag, GE587.out, GE588.out, GE625.out, GE638.out, GE651.out])) hb); have NB587_664 := nl BK587 hg; have NB664_587 := nt BK587 hg; replace BK587 := Aside0.mk (bb BK587 hb); have NB588_664 := nl BK588 hg; have NB664_588 := nt BK588 hg; replace BK588 := Aside0.mk (bb BK588 hb); have NB625_664 := nl BK625 hg; have NB664_625 := nt BK625 hg; replace BK625 := Aside0.mk (bb BK625 hb); have NB638_664 := nl BK638 hg; have NB664_638 := nt BK638 hg; replace BK638 := Aside0.mk (bb BK638 hb); have NB651_664 := nl BK651 hg; have NB664_651 := nt BK651 hg; replace BK651 := Aside0.mk (bb BK651 hb); clear hb hbox hg; have hnb79 := NB664_587.out; have hnc79 := NB587_664.out; have hnb80 := NB664_588.out; have hnc80 := NB588_664.out; have hnb81 := NB664_625.out; have hnc81 := NB625_664.out; have hnb82 := NB664_638.out; have hnc82 := NB638_664.out; have hnb83 := NB664_651.out; have hnc83 := NB651_664.out; obtain ⟨hcz84_0, hcz84_1, hcz84_2, hcz84_3, hcz84_4, hcz84_5, hcz84_6, hfz84_0, hfz84_1, hfz84_2, hfz84_3, hfz84_4, hfz84_5, hfz84_6⟩ := cf7 BK664; obtain ⟨Ao85, co85, eo85⟩ := Kd.R_slice HO659.out; subst eo85; obtain ⟨Ao86, co86, eo86⟩ := Kd.R_slice HO662.out; subst eo86) | ((with_reducible refine gate_store (t := 42) (p := 17) rfl ?_); refine store_event (t := 42) (p := 17) (v := ?vo_w87) (w1 := (((((((w78.setCell ⟨gb664, 0, none⟩ (.int .i64 t652)).setCell ⟨gb664, 1, none⟩ (.int .i64 t653)).setCell ⟨gb664, 2, none⟩ (.int .i64 t654)).setCell ⟨gb664, 3, none⟩ (.int .i64 t655)).setCell ⟨gb664, 4, none⟩ (.int .i64 t656)).setCell ⟨gb664, 5, none⟩ (.slice Ao85 t657.length co85)).setCell ⟨gb664, 6, none⟩ (.slice Ao86 t660.length co86))) ?hg ?ho ?hn ?hr ?_; (case ho => rfl); (case hg => rfl); (case hn => rfl); (case hr => first | (go_simp; done) | (go_simp; rfl)); intro w87 hw; have n0_ : Aside0 (Kd.V (Kd.int .u8) 5 w87 w.heap.size (fun k_ => (P1_ k_ ∨ w.heap.size ≤ k_) ∧ nB k_ Ao12 t594 co12 ∧ nB k_ Ao13 t597 co13 ∧ some k_ ≠ (v606 : Value).ownBlock ∧ some k_ ≠ (v610 : Value).ownBlock ∧ nB k_ Ao53 t618 co53 ∧ nB k_ Ao54 t621 co54 ∧ nB k_ Ao62 t631 co62 ∧ nB k_ Ao63 t634 co63 ∧ nB k_ Ao73 t644 co73 ∧ nB k_ Ao74 t647 co74 ∧ nB k_ Ao85 t657 co85 ∧ nB k_ Ao86 t660 co86 ∧ k_ ≠ gb587 ∧ k_ ≠ gb588 ∧ k_ ≠ gb625 ∧ k_ ≠ gb638 ∧ k_ ≠ gb651 ∧ k_ ≠ gb664) (.slice Ao47 x1_4.length co47) x1_4) := ⟨(by rw [hw]; exact (vf7 HO_1.out (fun _ hk => hk.2) (fun _ hk => by (try simp only [nB] at hk ⊢); simp [hk])))⟩; have n1_ : Aside0 (Kd.R (Kd.int .i64) 3 w87 w.heap.size (fun k_ => (w.heap.size ≤ k_) ∧ nB k_ Ao13 t597 co13 ∧ nB k_ Ao53 t618 co53 ∧ nB k_ Ao54 t621 co54 ∧ nB k_ Ao62 t631 co62 ∧ nB k_ Ao63 t634 co63 ∧ nB k_ Ao73 t644 co73 ∧ nB k_ Ao74 t647 co74 ∧ nB k_ Ao85 t657 co85 ∧ nB k_ Ao86 t660 co86) (.slice Ao12 t594.length co12) t594) := ⟨(by rw [hw]; exact (rf7 HO_588005.out BK664.out (by decide) (fun _ hk => by (try simp only [nB] at hk ⊢); simp [hk])))⟩; have n2_ : Aside0 (Kd.R (Kd.int .i64) 3 w87 w.heap.size (fun k_ => (w.heap.size ≤ k_) ∧ nB k_ Ao12 t594 co12 ∧ nB k_ Ao53 t618 co53 ∧ nB k_ Ao54 t621 co54 ∧ nB k_ Ao62 t631 co62 ∧ nB k_ Ao63 t634 co63 ∧ nB k_ Ao73 t644 co73 ∧ nB k_ Ao74 t647 co74 ∧ nB k_ Ao85 t657 co85 ∧ nB k_ Ao86 t660 co86) (.slice Ao13 t597.length co13) t597) := ⟨(by rw [hw]; exact (rf7 HO_588006.out BK664.out (by decide) (fun _ hk => by (try simp only [nB] at hk ⊢); simp [hk])))⟩; have n3_ : Aside0 (Kd.R (Kd.int .u8) 84 w87 w.heap.size (fun k_ => (w.heap.size ≤ k_) ∧ some k_ ≠ (v610 : Value).ownBlock) v606 t605) := ⟨(by rw [hw]; exact (rf7 HO607.out BK664.out (by decide) (fun _ hk => ⟨hk.1.1, hk.1.2⟩)))⟩; have n4_ : Aside0 (Kd.R (Kd.int .u8) 5 w87 w.heap.size (fun k_ => (w.heap.size ≤ k_) ∧ some k_ ≠ (v606 : Value).ownBlock) v610 t609) := ⟨(by rw [hw]; exact (rf7 HO611.out BK664.out (by decide) (fun _ hk => ⟨hk.1.1, hk.1.2⟩)))⟩; have n5_ : Aside0 (Kd.R (Kd.int .i64) 3 w87 w.heap.size (fun k_ => (w.heap.size ≤ k_) ∧ nB k_ Ao12 t594 co12 ∧ nB k_ Ao13 t597 co13 ∧ nB k_ Ao54 t621 co54 ∧ nB k_ Ao62 t631 co62 ∧ nB k_ Ao63 t634 co63 ∧ nB k_ Ao73 t644 co73 ∧ nB k_ Ao74 t647 co74 ∧ nB k_ Ao85 t657 co85 ∧ nB k_ Ao86 t660 co86) (.slice Ao53 t618.length co53) t618) := ⟨(by rw [hw]; exact (rf7 HO620.out BK664.out (by decide) (fun _ hk => by (try simp only [nB] at hk ⊢); simp [hk])))⟩; have n6_ : Aside0 (Kd.R (Kd.int .i64) 3 w87 w.heap.size (fun k_ => (w.heap.size ≤ k_) ∧ nB k_ Ao12 t594 co12 ∧ nB k_ Ao13 t597 co13 ∧ nB k_ Ao53 t618 co53 ∧ nB k_ Ao62 t631 co62 ∧ nB k_ Ao63 t634 co63 ∧ nB k_ Ao73 t644 co73 ∧ nB k_ Ao74 t647 co74 ∧ nB k_ Ao85 t657 co85 ∧ nB k_ Ao86 t660 co86) (.slice Ao54 t621.length co54) t621) := ⟨(by rw [hw]; exact (rf7 HO623.out BK664.out (by decide) (fun _ hk => by (try simp only [nB] at hk ⊢); simp [hk])))⟩; have n7_ : Aside0 (Kd.R (Kd.int .i64) 3 w87 w.heap.size (fun k_ => (w.heap.size ≤ k_) ∧ nB k_ Ao12 t594 co12 ∧ nB k_ Ao13 t597 co13 ∧ nB k_ Ao53 t618 co53 ∧ nB k_ Ao54 t621 co54 ∧ nB k_ Ao63 t634 co63 ∧ nB k_ Ao73 t644 co73 ∧ nB k_ Ao74 t647 co74 ∧ nB k_ Ao85 t657 co85 ∧ nB k_ Ao86 t660 co86) (.slice Ao62 t631.length co62) t631) := ⟨(by rw [hw]; exact (rf7 HO633.out BK664.out (by decide) (fun _ hk => by (try simp only [nB] at hk ⊢); simp [hk])))⟩; have n8_ : Aside0 (Kd.R (Kd.int .i64) 3 w87 w.heap.size (fun k_ => (w.heap.size ≤ k_) ∧ nB k_ Ao12 t594 co12 ∧ nB k_ Ao13 t597 co13 ∧ nB k_ Ao53 t618 co53 ∧ nB k_ Ao54 t621 co54 ∧ nB k_ Ao62 t631 co62 ∧ nB k_ Ao73 t644 co73 ∧ nB k_ Ao74 t647 co74 ∧ nB k_ Ao85 t657 co85 ∧ nB k_ Ao86 t660 co86) (.slice Ao63 t634.length co63) t634) := ⟨(by rw [hw]; exact (rf7 HO636.out BK664.out (by decide) (fun _ hk => by (try simp only [nB] at hk ⊢); simp [hk])))⟩; have n9_ : Aside0 (Kd.R (Kd.int .i64) 3 w87 w.heap.size (fun k_ => (w.heap.size ≤ k_) ∧ nB k_ Ao12 t594 co12 ∧ nB k_ Ao13 t597 co13 ∧ nB k_ Ao53 t618 co53 ∧ nB k_ Ao54 t621 co54 ∧ nB k_ Ao62 t631 co62 ∧ nB k_ Ao63 t634 co63 ∧ nB k_ Ao74 t647 co74 ∧ nB k_ Ao85 t657 co85 ∧ nB k_ Ao86 t660 co86) (.slice Ao73 t644.length co73) t644) := ⟨(by rw [hw]; exact (rf7 HO646.out BK664.out (by decide) (fun _ hk => by (try simp only [nB] at hk ⊢); simp [hk])))⟩; have n10_ : Aside0 (Kd.R (Kd.int .i64) 3 w87 w.heap.size (fun k_ => (w.heap.size ≤ k_) ∧ nB k_ Ao12 t594 co12 ∧ nB k_ Ao13 t597 co13 ∧ nB k_ Ao53 t618 co53 ∧ nB k_ Ao54 t621 co54 ∧ nB k_ Ao62 t631 co62 ∧ nB k_ Ao63 t634 co63 ∧ nB k_ Ao73 t644 co73 ∧ nB k_ Ao85 t657 co85 ∧ nB k_ Ao86 t660 co86) (.slice Ao74 t647.length co74) t647) := ⟨(by rw [hw]; exact (rf7 HO649.out BK664.out (by decide) (fun _ hk => by (try simp only [nB] at hk ⊢); simp [hk])))⟩; have n11_ : Aside0 (Kd.R (Kd.int .i64) 3 w87 w.heap.size (fun k_ => (w.heap.size ≤ k_) ∧ nB k_ Ao12 t594 co12 ∧ nB k_ Ao13 t597 co13 ∧ nB k_ Ao53 t618 co53 ∧ nB k_ Ao54 t621 co54 ∧ nB k_ Ao62 t631 co62 ∧ nB k_ Ao63 t634 co63 ∧ nB k_ Ao73 t644 co73 ∧ nB k_ Ao74 t647 co74 ∧ nB k_ Ao86 t660 co86) (.slice Ao85 t657.length co85) t657) := ⟨(by rw [hw]; exact (rf7 HO659.out BK664.out (by decide) (fun _ hk => by (try simp only [nB] at hk ⊢); simp [hk])))⟩; have n12_ : Aside0 (Kd.R (Kd.int .i64) 3 w87 w.heap.size (fun k_ => (w.heap.size ≤ k_) ∧ nB k_ Ao12 t594 co12 ∧ nB k_ Ao13 t597 co13 ∧ nB k_ Ao53 t618 co53 ∧ nB k_ Ao54 t621 co54 ∧ nB k_ Ao62 t631 co62 ∧ nB k_ Ao63 t634 co63 ∧ nB k_ Ao73 t644 co73 ∧ nB k_ Ao74 t647 co74 ∧ nB k_ Ao85 t657 co85) (.slice Ao86 t660.length co86) t660) := ⟨(by rw [hw]; exact (rf7 HO662.out BK664.out (by decide) (fun _ hk => by (try simp only [nB] at hk ⊢); simp [hk])))⟩; have n13_ : Aside0 (w87.heap[gb587]? = some (.cells #[.int .i64 t589, .int .i64 t590, .int .i64 t591, .int .i64 t592, .int .i64 t593, .slice Ao12 t594.length co12, .slice Ao13 t597.length co13] 42 (0, 0))) := ⟨(by rw [hw]; exact bf7 BK587.out NB587_664.out)⟩; have n14_ : Aside0 (w87.heap[gb588]? = some (.cells #[.int .i64 a2_0, .int .i64 a2_1] 51 (0, 0))) := ⟨(by rw [hw]; exact bf7 BK588.out NB588_664.out)⟩; have n15_ : Aside0 (w87.heap[gb625]? = some (.cells #[.int .i64 t613, .int .i64 t614, .int .i64 t615, .int .i64 t616, .int .i64 t617, .slice Ao53 t618.length co53, .slice Ao54 t621.length co54] 42 (0, 0))) := ⟨(by rw [hw]; exact bf7 BK625.out NB625_664.out)⟩; have n16_ : Aside0 (w87.heap[gb638]? = some (.cells #[.int .i64 t626, .int .i64 t627, .int .i64 t628, .int .i64 t629, .int .i64 t630, .slice Ao62 t631.length co62, .slice Ao63 t634.length co63] 42 (0, 0))) := ⟨(by rw [hw]; exact bf7 BK638.out NB638_664.out)⟩; have n17_ : Aside0 (w87.heap[gb651]? = some (.cells #[.int .i64 t639, .int .i64 t640, .int .i64 t641, .int .i64 t642, .int .i64 t643, .slice Ao73 t644.length co73, .slice Ao74 t647.length co74] 42 (0, 0))) := ⟨(by rw [hw]; exact bf7 BK651.out NB651_664.out)⟩; have n18_ : Aside0 (w87.heap[gb664]? = some (.cells #[.int .i64 t652, .int .i64 t653, .int .i64 t654, .int .i64 t655, .int .i64 t656, .slice Ao85 t657.length co85, .slice Ao86 t660.length co86] 42 (0, 0))) := ⟨(by rw [hw]; exact bp7 BK664.out)⟩; have n19_ : Aside0 (Below w.heap.size w w87) := ⟨(by rw [hw]; exact (bs HB (by simp [ag, GE587.out, GE588.out, GE625.out, GE638.out, GE651.out, GE664.out])))⟩; clear hw; clear HO_1; clear HO_588005; clear HO_588006; clear HO607; clear HO611; clear HO620; clear HO623; clear HO633; clear HO636; clear HO646; clear HO649; clear HO659; clear HO662; clear BK587; clear BK588; clear BK625; clear BK638; clear BK651; clear BK664; clear HB; have HO_1 := n0_; have HO_588005 := n1_; have HO_588006 := n2_; have HO607 := n3_; have HO611 := n4_; have HO620 := n5_; have HO623 := n6_; have HO633 := n7_; have HO636 := n8_; have HO646 := n9_; have HO649 := n10_; have HO659 := n11_; have HO662 := n12_; have BK587 := n13_; have BK588 := n14_; have BK625 := n15_; have BK638 := n16_; have BK651 := n17_; have BK664 := n18_; have HB := n19_; clear n0_ n1_ n2_ n3_ n4_ n5_ n6_ n7_ n8_ n9_ n10_ n11_ n12_ n13_ n14_ n15_ n16_ n17_ n18_ n19_; obtain ⟨hcz88_0, hcz88_1, hfz88_0, hfz88_1⟩ := cf2 BK588) | ((with_reducible refine gate_callee (f := 36) rfl ?_); refine goesL_ (some 65) rfl rfl Try.func36 (by kernel_rfl) rfl #[.int .i64 a2_0, .int .i64 a2_1] rfl (by simp only [List.map_toArray, List.map_cons, List.map_nil]; first | done | rfl) ?_; (with_reducible refine (cyl_New.calls kj4 a2_0 a2_1 t665 t666 t667 t668 t669 t670 t673 t676 _ A24.out).mono ?_); rintro e w89 ⟨v671, v674, rfl, ho0, ho1, hb⟩; refine ⟨_, rfl, ?_⟩; have hone_v671 := Kd.R_one ho0; have hone_v674 := Kd.R_one ho1; replace HO_1 := Aside0.mk (Kd.V_mono (Kd.V_told (Kd.V_told (Kd.V_old (vk HO_1) hb) (Kd.R_base ho0)) (Kd.R_base ho1)) (fun _ h_ => h_.1)); replace HO607 := Aside0.mk (Kd.R_below (rk HO607) hb); replace HO611 := Aside0.mk (Kd.R_below (rk HO611) hb); have HO672 := Aside0.mk (Kd.R_lower (Kd.R_new' (Kd.R_new' (Kd.R_new' (Kd.R_new' (Kd.R_new' (Kd.R_new' (Kd.R_new' (Kd.R_new' (Kd.R_new' (Kd.R_new' (Kd.R_newM (M := fun k_ => (w.heap.size ≤ k_)) ho0 (below_size (bs HB (by simp [ag, GE587.out, GE588.out, GE625.out, GE638.out, GE651.out, GE664.out]))) (fun k_ h_ => h_)) (Kd.R_lt (rk HO_588005))) (Kd.R_lt (rk HO_588006))) (Kd.R_lt (rk HO620))) (Kd.R_lt (rk HO623))) (Kd.R_lt (rk HO633))) (Kd.R_lt (rk HO636))) (Kd.R_lt (rk HO646))) (Kd.R_lt (rk HO649))) (Kd.R_lt (rk HO659))) (Kd.R_lt (rk HO662))) (below_size (bs HB (by simp [ag, GE587.out, GE588.out, GE625.out, GE638.out, GE651.out, GE664.out])))); have HO675 := Aside0.mk (Kd.R_lower (Kd.R_new' (Kd.R_new' (Kd.R_new' (Kd.R_new' (Kd.R_new' (Kd.R_new' (Kd.R_new' (Kd.R_new' (Kd.R_new' (Kd.R_new' (Kd.R_newM (M := fun k_ => (w.heap.size ≤ k_)) ho1 (below_size (bs HB (by simp [ag, GE587.out, GE588.out, GE625.out, GE638.out, GE651.out, GE664.out]))) (fun k_ h_ => h_)) (Kd.R_lt (rk HO_588005))) (Kd.R_lt (rk HO_588006))) (Kd.R_lt (rk HO620))) (Kd.R_lt (rk HO623))) (Kd.R_lt (rk HO633))) (Kd.R_lt (rk HO636))) (Kd.R_lt (rk HO646))) (Kd.R_lt (rk HO649))) (Kd.R_lt (rk HO659))) (Kd.R_lt (rk HO662))) (below_size (bs HB (by simp [ag, GE587.out, GE588.out, GE625.out, GE638.out, GE651.out, GE664.out])))); replace HO_588005 := Aside0.mk (Kd.R_mono (Kd.R_told (Kd.R_told (Kd.R_old (rk HO_588005) hb) (Kd.R_base ho0)) (Kd.R_base ho1)) (fun _ h_ => h_.1)); replace HO_588006 := Aside0.mk (Kd.R_mono (Kd.R_told (Kd.R_told (Kd.R_old (rk HO_588006) hb) (Kd.R_base ho0)) (Kd.R_base ho1)) (fun _ h_ => h_.1)); replace HO620 := Aside0.mk (Kd.R_mono (Kd.R_told (Kd.R_told (Kd.R_old (rk HO620) hb) (Kd.R_base ho0)) (Kd.R_base ho1)) (fun _ h_ => h_.1)); replace HO623 := Aside0.mk (Kd.R_mono (Kd.R_told (Kd.R_told (Kd.R_old (rk HO623) hb) (Kd.R_base ho0)) (Kd.R_base ho1)) (fun _ h_ => h_.1)); replace HO633 := Aside0.mk (Kd.R_mono (Kd.R_told (Kd.R_told (Kd.R_old (rk HO633) hb) (Kd.R_base ho0)) (Kd.R_base ho1)) (fun _ h_ => h_.1)); replace HO636 := Aside0.mk (Kd.R_mono (Kd.R_told (Kd.R_told (Kd.R_old (rk HO636) hb) (Kd.R_base ho0)) (Kd.R_base ho1)) (fun _ h_ => h_.1)); replace HO646 := Aside0.mk (Kd.R_mono (Kd.R_told (Kd.R_told (Kd.R_old (rk HO646) hb) (Kd.R_base ho0)) (Kd.R_base ho1)) (fun _ h_ => h_.1)); replace HO649 := Aside0.mk (Kd.R_mono (Kd.R_told (Kd.R_told (Kd.R_old (rk HO649) hb) (Kd.R_base ho0)) (Kd.R_base ho1)) (fun _ h_ => h_.1)); replace HO659 := Aside0.mk (Kd.R_mono (Kd.R_told (Kd.R_told (Kd.R_old (rk HO659) hb) (Kd.R_base ho0)) (Kd.R_base ho1)) (fun _ h_ => h_.1)); replace HO662 := Aside0.mk (Kd.R_mono (Kd.R_told (Kd.R_told (Kd.R_old (rk HO662) hb) (Kd.R_base ho0)) (Kd.R_base ho1)) (fun _ h_ => h_.1)); replace BK587 := Aside0.mk (bb BK587 hb); replace BK588 := Aside0.mk (bb BK588 hb); replace BK625 := Aside0.mk (bb BK625 hb); replace BK638 := Aside0.mk (bb BK638 hb); replace BK651 := Aside0.mk (bb BK651 hb); replace BK664 := Aside0.mk (bb BK664 hb); replace HB := Aside0.mk (below_step (bs HB (by simp [ag, GE587.out, GE588.out, GE625.out, GE638.out, GE651.out, GE664.out])) hb); clear ho0 hb; (try clear ho1)) | ((with_reducible refine gate_dst (N := 19) rfl ?_); refine box_event rfl (N := 19) rfl (cs := #[.int .i64 0, .int .i64 0, .int .i64 0, .int .i64 0, .int .i64 0, .slice none 0 0, .slice none 0 0]) (t := 42) (by first | (go_simp; done) | (go_simp; rfl)) ?_; intro gb677 hg w90 hbox hb; replace HO_1 := Aside0.mk (Kd.V_below (Kd.V_elderB (vk HO_1) gb677 (Nat.le_of_eq hg.symm)) hb); replace HO_588005 := Aside0.mk (Kd.R_below (rk HO_588005) hb); replace HO_588006 := Aside0.mk (Kd.R_below (rk HO_588006) hb); replace HO607 := Aside0.mk (Kd.R_below (rk HO607) hb); replace HO611 := Aside0.mk (Kd.R_below (rk HO611) hb); replace HO620 := Aside0.mk (Kd.R_below (rk HO620) hb); replace HO623 := Aside0.mk (Kd.R_below (rk HO623) hb); replace HO633 := Aside0.mk (Kd.R_below (rk HO633) hb); replace HO636 := Aside0.mk (Kd.R_below (rk HO636) hb); replace HO646 := Aside0.mk (Kd.R_below (rk HO646) hb); replace HO649 := Aside0.mk (Kd.R_below (rk HO649) hb); replace HO659 := Aside0.mk (Kd.R_below (rk HO659) hb); replace HO662 := Aside0.mk (Kd.R_below (rk HO662) hb); replace HO672 := Aside0.mk (Kd.R_below (rk HO672) hb); replace HO675 := Aside0.mk (Kd.R_below (rk HO675) hb); have BK677 := Aside0.mk (hbox); have GW677 := gl HB hg (by simp [ag, GE587.out, GE588.out, GE625.out, GE638.out, GE651.out, GE664.out]); have GE677 := gl HB hg (by simp [ag, GE587.out, GE588.out, GE625.out, GE638.out, GE651.out, GE664.out]); replace HB := Aside0.mk (below_step (bs HB (by simp [ag, GE587.out, GE588.out, GE625.out, GE638.out, GE651.out, GE664.out])) hb); have NB587_677 := nl BK587 hg; have NB677_587 := nt BK587 hg; replace BK587 := Aside0.mk (bb BK587 hb); have NB588_677 := nl BK588 hg; have NB677_588 := nt BK588 hg; replace BK588 := Aside0.mk (bb BK588 hb); have NB625_677 := nl BK625 hg; have NB677_625 := nt BK625 hg; replace BK625 := Aside0.mk (bb BK625 hb); have NB638_677 := nl BK638 hg; have NB677_638 := nt BK638 hg; replace BK638 := Aside0.mk (bb BK638 hb); have NB651_677 := nl BK651 hg; have NB677_651 := nt BK651 hg; replace BK651 := Aside0.mk (bb BK651 hb); have NB664_677 := nl BK664 hg; have NB677_664 := nt BK664 hg; replace BK664 := Aside0.mk (bb BK664 hb); clear hb hbox hg; have hnb91 := NB677_587.out; have hnc91 := NB587_677.out; have hnb92 := NB677_588.out; have hnc92 := NB588_677.out; have hnb93 := NB677_625.out; have hnc93 := NB625_677.out; have hnb94 := NB677_638.out; have hnc94 := NB638_677.out; have hnb95 := NB677_651.out; have hnc95 := NB651_677.out; have hnb96 := NB677_664.out; have hnc96 := NB664_677.out; obtain ⟨hcz97_0, hcz97_1, hcz97_2, hcz97_3, hcz97_4, hcz97_5, hcz97_6, hfz97_0, hfz97_1, hfz97_2, hfz97_3, hfz97_4, hfz97_5, hfz97_6⟩ := cf7 BK677; obtain ⟨Ao98, co98, eo98⟩ := Kd.R_slice HO672.out; subst eo98; obtain ⟨Ao99, co99, eo99⟩ := Kd.R_slice HO675.out; subst eo99) | ((with_reducible refine gate_store (t := 42) (p := 19) rfl ?_); refine store_event (t := 42) (p := 19) (v := ?vo_w100) (w1 := (((((((w90.setCell ⟨gb677, 0, none⟩ (.int .i64 t665)).setCell ⟨gb677, 1, none⟩ (.int .i64 t666)).setCell ⟨gb677, 2, none⟩ (.int .i64 t667)).setCell ⟨gb677, 3, none⟩ (.int .i64 t668)).setCell ⟨gb677, 4, none⟩ (.int .i64 t669)).setCell ⟨gb677, 5, none⟩ (.slice Ao98 t670.length co98)).setCell ⟨gb677, 6, none⟩ (.slice Ao99 t673.length co99))) ?hg ?ho ?hn ?hr ?_; (case ho => rfl); (case hg => rfl); (case hn => rfl); (case hr => first | (go_simp; done) | (go_simp; rfl)); intro w100 hw; have n0_ : Aside0 (Kd.V (Kd.int .u8) 5 w100 w.heap.size (fun k_ => (P1_ k_ ∨ w.heap.size ≤ k_) ∧ nB k_ Ao12 t594 co12 ∧ nB k_ Ao13 t597 co13 ∧ some k_ ≠ (v606 : Value).ownBlock ∧ some k_ ≠ (v610 : Value).ownBlock ∧ nB k_ Ao53 t618 co53 ∧ nB k_ Ao54 t621 co54 ∧ nB k_ Ao62 t631 co62 ∧ nB k_ Ao63 t634 co63 ∧ nB k_ Ao73 t644 co73 ∧ nB k_ Ao74 t647 co74 ∧ nB k_ Ao85 t657 co85 ∧ nB k_ Ao86 t660 co86 ∧ nB k_ Ao98 t670 co98 ∧ nB k_ Ao99 t673 co99 ∧ k_ ≠ gb587 ∧ k_ ≠ gb588 ∧ k_ ≠ gb625 ∧ k_ ≠ gb638 ∧ k_ ≠ gb651 ∧ k_ ≠ gb664 ∧ k_ ≠ gb677) (.slice Ao47 x1_4.length co47) x1_4) := ⟨(by rw [hw]; exact (vf7 HO_1.out (fun _ hk => hk.2) (fun _ hk => by (try simp only [nB] at hk ⊢); simp [hk])))⟩; have n1_ : Aside0 (Kd.R (Kd.int .i64) 3 w100 w.heap.size (fun k_ => (w.heap.size ≤ k_) ∧ nB k_ Ao13 t597 co13 ∧ nB k_ Ao53 t618 co53 ∧ nB k_ Ao54 t621 co54 ∧ nB k_ Ao62 t631 co62 ∧ nB k_ Ao63 t634 co63 ∧ nB k_ Ao73 t644 co73 ∧ nB k_ Ao74 t647 co74 ∧ nB k_ Ao85 t657 co85 ∧ nB k_ Ao86 t660 co86 ∧ nB k_ Ao98 t670 co98 ∧ nB k_ Ao99 t673 co99) (.slice Ao12 t594.length co12) t594) := ⟨(by rw [hw]; exact (rf7 HO_588005.out BK677.out (by decide) (fun _ hk => by (try simp only [nB] at hk ⊢); simp [hk])))⟩; have n2_ : Aside0 (Kd.R (Kd.int .i64) 3 w100 w.heap.size (fun k_ => (w.heap.size ≤ k_) ∧ nB k_ Ao12 t594 co12 ∧ nB k_ Ao53 t618 co53 ∧ nB k_ Ao54 t621 co54 ∧ nB k_ Ao62 t631 co62 ∧ nB k_ Ao63 t634 co63 ∧ nB k_ Ao73 t644 co73 ∧ nB k_ Ao74 t647 co74 ∧ nB k_ Ao85 t657 co85 ∧ nB k_ Ao86 t660 co86 ∧ nB k_ Ao98 t670 co98 ∧ nB k_ Ao99 t673 co99) (.slice Ao13 t597.length co13) t597) := ⟨(by rw [hw]; exact (rf7 HO_588006.out BK677.out (by decide) (fun _ hk => by (try simp only [nB] at hk ⊢); simp [hk])))⟩; have n3_ : Aside0 (Kd.R (Kd.int .u8) 84 w100 w.heap.size (fun k_ => (w.heap.size ≤ k_) ∧ some k_ ≠ (v610 : Value).ownBlock) v606 t605) := ⟨(by rw [hw]; exact (rf7 HO607.out BK677.out (by decide) (fun _ hk => ⟨hk.1.1, hk.1.2⟩)))⟩; have n4_ : Aside0 (Kd.R (Kd.int .u8) 5 w100 w.heap.size (fun k_ => (w.heap.size ≤ k_) ∧ some k_ ≠ (v606 : Value).ownBlock) v610 t609) := ⟨(by rw [hw]; exact (rf7 HO611.out BK677.out (by decide) (fun _ hk => ⟨hk.1.1, hk.1.2⟩)))⟩; have n5_ : Aside0 (Kd.R (Kd.int .i64) 3 w100 w.heap.size (fun k_ => (w.heap.size ≤ k_) ∧ nB k_ Ao12 t594 co12 ∧ nB k_ Ao13 t597 co13 ∧ nB k_ Ao54 t621 co54 ∧ nB k_ Ao62 t631 co62 ∧ nB k_ Ao63 t634 co63 ∧ nB k_ Ao73 t644 co73 ∧ nB k_ Ao74 t647 co74 ∧ nB k_ Ao85 t657 co85 ∧ nB k_ Ao86 t660 co86 ∧ nB k_ Ao98 t670 co98 ∧ nB k_ Ao99 t673 co99) (.slice Ao53 t618.length co53) t618) := ⟨(by rw [hw]; exact (rf7 HO620.out BK677.out (by decide) (fun _ hk => by (try simp only [nB] at hk ⊢); simp [hk])))⟩; have n6_ : Aside0 (Kd.R (Kd.int .i64) 3 w100 w.heap.size (fun k_ => (w.heap.size ≤ k_) ∧ nB k_ Ao12 t594 co12 ∧ nB k_ Ao13 t597 co13 ∧ nB k_ Ao53 t618 co53 ∧ nB k_ Ao62 t631 co62 ∧ nB k_ Ao63 t634 co63 ∧ nB k_ Ao73 t644 co73 ∧ nB k_ Ao74 t647 co74 ∧ nB k_ Ao85 t657 co85 ∧ nB k_ Ao86 t660 co86 ∧ nB k_ Ao98 t670 co98 ∧ nB k_ Ao99 t673 co99) (.slice Ao54 t621.length co54) t621) := ⟨(by rw [hw]; exact (rf7 HO623.out BK677.out (by decide) (fun _ hk => by (try simp only [nB] at hk ⊢); simp [hk])))⟩; have n7_ : Aside0 (Kd.R (Kd.int .i64) 3 w100 w.heap.size (fun k_ => (w.heap.size ≤ k_) ∧ nB k_ Ao12 t594 co12 ∧ nB k_ Ao13 t597 co13 ∧ nB k_ Ao53 t618 co53 ∧ nB k_ Ao54 t621 co54 ∧ nB k_ Ao63 t634 co63 ∧ nB k_ Ao73 t644 co73 ∧ nB k_ Ao74 t647 co74 ∧ nB k_ Ao85 t657 co85 ∧ nB k_ Ao86 t660 co86 ∧ nB k_ Ao98 t670 co98 ∧ nB k_ Ao99 t673 co99) (.slice Ao62 t631.length co62) t631) := ⟨(by rw [hw]; exact (rf7 HO633.out BK677.out (by decide) (fun _ hk => by (try simp only [nB] at hk ⊢); simp [hk])))⟩; have n8_ : Aside0 (Kd.R (Kd.int .i64) 3 w100 w.heap.size (fun k_ => (w.heap.size ≤ k_) ∧ nB k_ Ao12 t594 co12 ∧ nB k_ Ao13 t597 co13 ∧ nB k_ Ao53 t618 co53 ∧ nB k_ Ao54 t621 co54 ∧ nB k_ Ao62 t631 co62 ∧ nB k_ Ao73 t644 co73 ∧ nB k_ Ao74 t647 co74 ∧ nB k_ Ao85 t657 co85 ∧ nB k_ Ao86 t660 co86 ∧ nB k_ Ao98 t670 co98 ∧ nB k_ Ao99 t673 co99) (.slice Ao63 t634.length co63) t634) := ⟨(by rw [hw]; exact (rf7 HO636.out BK677.out (by decide) (fun _ hk => by (try simp only [nB] at hk ⊢); simp [hk])))⟩; have n9_ : Aside0 (Kd.R (Kd.int .i64) 3 w100 w.heap.size (fun k_ => (w.heap.size ≤ k_) ∧ nB k_ Ao12 t594 co12 ∧ nB k_ Ao13 t597 co13 ∧ nB k_ Ao53 t618 co53 ∧ nB k_ Ao54 t621 co54 ∧ nB k_ Ao62 t631 co62 ∧ nB k_ Ao63 t634 co63 ∧ nB k_ Ao74 t647 co74 ∧ nB k_ Ao85 t657 co85 ∧ nB k_ Ao86 t660 co86 ∧ nB k_ Ao98 t670 co98 ∧ nB k_ Ao99 t673 co99) (.slice Ao73 t644.length co73) t644) := ⟨(by rw [hw]; exact (rf7 HO646.out BK677.out (by decide) (fun _ hk => by (try simp only [nB] at hk ⊢); simp [hk])))⟩; have n10_ : Aside0 (Kd.R (Kd.int .i64) 3 w100 w.heap.size (fun k_ => (w.heap.size ≤ k_) ∧ nB k_ Ao12 t594 co12 ∧ nB k_ Ao13 t597 co13 ∧ nB k_ Ao53 t618 co53 ∧ nB k_ Ao54 t621 co54 ∧ nB k_ Ao62 t631 co62 ∧ nB k_ Ao63 t634 co63 ∧ nB k_ Ao73 t644 co73 ∧ nB k_ Ao85 t657 co85 ∧ nB k_ Ao86 t660 co86 ∧ nB k_ Ao98 t670 co98 ∧ nB k_ Ao99 t673 co99) (.slice Ao74 t647.length co74) t647) := ⟨(by rw [hw]; exact (rf7 HO649.out BK677.out (by decide) (fun _ hk => by (try simp only [nB] at hk ⊢); simp [hk])))⟩; have n11_ : Aside0 (Kd.R (Kd.int .i64) 3 w100 w.heap.size (fun k_ => (w.heap.size ≤ k_) ∧ nB k_ Ao12 t594 co12 ∧ nB k_ Ao13 t597 co13 ∧ nB k_ Ao53 t618 co53 ∧ nB k_ Ao54 t621 co54 ∧ nB k_ Ao62 t631 co62 ∧ nB k_ Ao63 t634 co63 ∧ nB k_ Ao73 t644 co73 ∧ nB k_ Ao74 t647 co74 ∧ nB k_ Ao86 t660 co86 ∧ nB k_ Ao98 t670 co98 ∧ nB k_ Ao99 t673 co99) (.slice Ao85 t657.length co85) t657) := ⟨(by rw [hw]; exact (rf7 HO659.out BK677.out (by decide) (fun _ hk => by (try simp only [nB] at hk ⊢); simp [hk])))⟩; have n12_ : Aside0 (Kd.R (Kd.int .i64) 3 w100 w.heap.size (fun k_ => (w.heap.size ≤ k_) ∧ nB k_ Ao12 t594 co12 ∧ nB k_ Ao13 t597 co13 ∧ nB k_ Ao53 t618 co53 ∧ nB k_ Ao54 t621 co54 ∧ nB k_ Ao62 t631 co62 ∧ nB k_ Ao63 t634 co63 ∧ nB k_ Ao73 t644 co73 ∧ nB k_ Ao74 t647 co74 ∧ nB k_ Ao85 t657 co85 ∧ nB k_ Ao98 t670 co98 ∧ nB k_ Ao99 t673 co99) (.slice Ao86 t660.length co86) t660) := ⟨(by rw [hw]; exact (rf7 HO662.out BK677.out (by decide) (fun _ hk => by (try simp only [nB] at hk ⊢); simp [hk])))⟩; have n13_ : Aside0 (Kd.R (Kd.int .i64) 3 w100 w.heap.size (fun k_ => (w.heap.size ≤ k_) ∧ nB k_ Ao12 t594 co12 ∧ nB k_ Ao13 t597 co13 ∧ nB k_ Ao53 t618 co53 ∧ nB k_ Ao54 t621 co54 ∧ nB k_ Ao62 t631 co62 ∧ nB k_ Ao63 t634 co63 ∧ nB k_ Ao73 t644 co73 ∧ nB k_ Ao74 t647 co74 ∧ nB k_ Ao85 t657 co85 ∧ nB k_ Ao86 t660 co86 ∧ nB k_ Ao99 t673 co99) (.slice Ao98 t670.length co98) t670) := ⟨(by rw [hw]; exact (rf7 HO672.out BK677.out (by decide) (fun _ hk => by (try simp only [nB] at hk ⊢); simp [hk])))⟩; have n14_ : Aside0 (Kd.R (Kd.int .i64) 3 w100 w.heap.size (fun k_ => (w.heap.size ≤ k_) ∧ nB k_ Ao12 t594 co12 ∧ nB k_ Ao13 t597 co13 ∧ nB k_ Ao53 t618 co53 ∧ nB k_ Ao54 t621 co54 ∧ nB k_ Ao62 t631 co62 ∧ nB k_ Ao63 t634 co63 ∧ nB k_ Ao73 t644 co73 ∧ nB k_ Ao74 t647 co74 ∧ nB k_ Ao85 t657 co85 ∧ nB k_ Ao86 t660 co86 ∧ nB k_ Ao98 t670 co98) (.slice Ao99 t673.length co99) t673) := ⟨(by rw [hw]; exact (rf7 HO675.out BK677.out (by decide) (fun _ hk => by (try simp only [nB] at hk ⊢); simp [hk])))⟩; have n15_ : Aside0 (w100.heap[gb587]? = some (.cells #[.int .i64 t589, .int .i64 t590, .int .i64 t591, .int .i64 t592, .int .i64 t593, .slice Ao12 t594.length co12, .slice Ao13 t597.length co13] 42 (0, 0))) := ⟨(by rw [hw]; exact bf7 BK587.out NB587_677.out)⟩; have n16_ : Aside0 (w100.heap[gb588]? = some (.cells #[.int .i64 a2_0, .int .i64 a2_1] 51 (0, 0))) := ⟨(by rw [hw]; exact bf7 BK588.out NB588_677.out)⟩; have n17_ : Aside0 (w100.heap[gb625]? = some (.cells #[.int .i64 t613, .int .i64 t614, .int .i64 t615, .int .i64 t616, .int .i64 t617, .slice Ao53 t618.length co53, .slice Ao54 t621.length co54] 42 (0, 0))) := ⟨(by rw [hw]; exact bf7 BK625.out NB625_677.out)⟩; have n18_ : Aside0 (w100.heap[gb638]? = some (.cells #[.int .i64 t626, .int .i64 t627, .int .i64 t628, .int .i64 t629, .int .i64 t630, .slice Ao62 t631.length co62, .slice Ao63 t634.length co63] 42 (0, 0))) := ⟨(by rw [hw]; exact bf7 BK638.out NB638_677.out)⟩; have n19_ : Aside0 (w100.heap[gb651]? = some (.cells #[.int .i64 t639, .int .i64 t640, .int .i64 t641, .int .i64 t642, .int .i64 t643, .slice Ao73 t644.length co73, .slice Ao74 t647.length co74] 42 (0, 0))) := ⟨(by rw [hw]; exact bf7 BK651.out NB651_677.out)⟩; have n20_ : Aside0 (w100.heap[gb664]? = some (.cells #[.int .i64 t652, .int .i64 t653, .int .i64 t654, .int .i64 t655, .int .i64 t656, .slice Ao85 t657.length co85, .slice Ao86 t660.length co86] 42 (0, 0))) := ⟨(by rw [hw]; exact bf7 BK664.out NB664_677.out)⟩; have n21_ : Aside0 (w100.heap[gb677]? = some (.cells #[.int .i64 t665, .int .i64 t666, .int .i64 t667, .int .i64 t668, .int .i64 t669, .slice Ao98 t670.length co98, .slice Ao99 t673.length co99] 42 (0, 0))) := ⟨(by rw [hw]; exact bp7 BK677.out)⟩; have n22_ : Aside0 (Below w.heap.size w w100) := ⟨(by rw [hw]; exact (bs HB (by simp [ag, GE587.out, GE588.out, GE625.out, GE638.out, GE651.out, GE664.out, GE677.out])))⟩; clear hw; clear HO_1; clear HO_588005; clear HO_588006; clear HO607; clear HO611; clear HO620; clear HO623; clear HO633; clear HO636; clear HO646; clear HO649; clear HO659; clear HO662; clear HO672; clear HO675; clear BK587; clear BK588; clear BK625; clear BK638; clear BK651; clear BK664; clear BK677; clear HB; have HO_1 := n0_; have HO_588005 := n1_; have HO_588006 := n2_; have HO607 := n3_; have HO611 := n4_; have HO620 := n5_; have HO623 := n6_; have HO633 := n7_; have HO636 := n8_; have HO646 := n9_; have HO649 := n10_; have HO659 := n11_; have HO662 := n12_; have HO672 := n13_; have HO675 := n14_; have BK587 := n15_; have BK588 := n16_; have BK625 := n17_; have BK638 := n18_; have BK651 := n19_; have BK664 := n20_; have BK677 := n21_; have HB := n22_; clear n0_ n1_ n2_ n3_ n4_ n5_ n6_ n7_ n8_ n9_ n10_ n11_ n12_ n13_ n14_ n15_ n16_ n17_ n18_ n19_ n20_ n21_ n22_; obtain ⟨hcz101_0, hcz101_1, hfz101_0, hfz101_1⟩ := cf2 BK588) | ((with_reducible refine gate_callee (f := 37) rfl ?_); refine goesL_ (some 73) rfl rfl Try.func37 (by kernel_rfl) rfl #[.int .i64 a2_0, .int .i64 a2_1] rfl (by simp only [List.map_toArray, List.map_cons, List.map_nil]; first | done | rfl) ?_; (with_reducible refine (selvedgeref18_New.calls kj4 a2_0 a2_1 t678 t679 t680 t681 t682 t683 t686 t689 _ A25.out).mono ?_); rintro e w102 ⟨v684, v687, rfl, ho0, ho1, hb⟩; refine ⟨_, rfl, ?_⟩; have hone_v684 := Kd.R_one ho0; have hone_v687 := Kd.R_one ho1; replace HO_1 := Aside0.mk (Kd.V_mono (Kd.V_told (Kd.V_told (Kd.V_old (vk HO_1) hb) (Kd.R_base ho0)) (Kd.R_base ho1)) (fun _ h_ => h_.1)); replace HO607 := Aside0.mk (Kd.R_below (rk HO607) hb); replace HO611 := Aside0.mk (Kd.R_below (rk HO611) hb); have HO685 := Aside0.mk (Kd.R_lower (Kd.R_new' (Kd.R_new' (Kd.R_new' (Kd.R_new' (Kd.R_new' (Kd.R_new' (Kd.R_new' (Kd.R_new' (Kd.R_new' (Kd.R_new' (Kd.R_new' (Kd.R_new' (Kd.R_newM (M := fun k_ => (w.heap.size ≤ k_)) ho0 (below_size (bs HB (by simp [ag, GE587.out, GE588.out, GE625.out, GE638.out, GE651.out, GE664.out, GE677.out]))) (fun k_ h_ => h_)) (Kd.R_lt (rk HO_588005))) (Kd.R_lt (rk HO_588006))) (Kd.R_lt (rk HO620))) (Kd.R_lt (rk HO623))) (Kd.R_lt (rk HO633))) (Kd.R_lt (rk HO636))) (Kd.R_lt (rk HO646))) (Kd.R_lt (rk HO649))) (Kd.R_lt (rk HO659))) (Kd.R_lt (rk HO662))) (Kd.R_lt (rk HO672))) (Kd.R_lt (rk HO675))) (below_size (bs HB (by simp [ag, GE587.out, GE588.out, GE625.out, GE638.out, GE651.out, GE664.out, GE677.out])))); have HO688 := Aside0.mk (Kd.R_lower (Kd.R_new' (Kd.R_new' (Kd.R_new' (Kd.R_new' (Kd.R_new' (Kd.R_new' (Kd.R_new' (Kd.R_new' (Kd.R_new' (Kd.R_new' (Kd.R_new' (Kd.R_new' (Kd.R_newM (M := fun k_ => (w.heap.size ≤ k_)) ho1 (below_size (bs HB (by simp [ag, GE587.out, GE588.out, GE625.out, GE638.out, GE651.out, GE664.out, GE677.out]))) (fun k_ h_ => h_)) (Kd.R_lt (rk HO_588005))) (Kd.R_lt (rk HO_588006))) (Kd.R_lt (rk HO620))) (Kd.R_lt (rk HO623))) (Kd.R_lt (rk HO633))) (Kd.R_lt (rk HO636))) (Kd.R_lt (rk HO646))) (Kd.R_lt (rk HO649))) (Kd.R_lt (rk HO659))) (Kd.R_lt (rk HO662))) (Kd.R_lt (rk HO672))) (Kd.R_lt (rk HO675))) (below_size (bs HB (by simp [ag, GE587.out, GE588.out, GE625.out, GE638.out, GE651.out, GE664.out, GE677.out])))); replace HO_588005 := Aside0.mk (Kd.R_mono (Kd.R_told (Kd.R_told (Kd.R_old (rk HO_588005) hb) (Kd.R_base ho0)) (Kd.R_base ho1)) (fun _ h_ => h_.1)); replace HO_588006 := Aside0.mk (Kd.R_mono (Kd.R_told (Kd.R_told (Kd.R_old (rk HO_588006) hb) (Kd.R_base ho0)) (Kd.R_base ho1)) (fun _ h_ => h_.1)); replace HO620 := Aside0.mk (Kd.R_mono (Kd.R_told (Kd.R_told (Kd.R_old (rk HO620) hb) (Kd.R_base ho0)) (Kd.R_base ho1)) (fun _ h_ => h_.1)); replace HO623 := Aside0.mk (Kd.R_mono (Kd.R_told (Kd.R_told (Kd.R_old (rk HO623) hb) (Kd.R_base ho0)) (Kd.R_base ho1)) (fun _ h_ => h_.1)); replace HO633 := Aside0.mk (Kd.R_mono (Kd.R_told (Kd.R_told (Kd.R_old (rk HO633) hb) (Kd.R_base ho0)) (Kd.R_base ho1)) (fun _ h_ => h_.1)); replace HO636 := Aside0.mk (Kd.R_mono (Kd.R_told (Kd.R_told (Kd.R_old (rk HO636) hb) (Kd.R_base ho0)) (Kd.R_base ho1)) (fun _ h_ => h_.1)); replace HO646 := Aside0.mk (Kd.R_mono (Kd.R_told (Kd.R_told (Kd.R_old (rk HO646) hb) (Kd.R_base ho0)) (Kd.R_base ho1)) (fun _ h_ => h_.1)); replace HO649 := Aside0.mk (Kd.R_mono (Kd.R_told (Kd.R_told (Kd.R_old (rk HO649) hb) (Kd.R_base ho0)) (Kd.R_base ho1)) (fun _ h_ => h_.1)); replace HO659 := Aside0.mk (Kd.R_mono (Kd.R_told (Kd.R_told (Kd.R_old (rk HO659) hb) (Kd.R_base ho0)) (Kd.R_base ho1)) (fun _ h_ => h_.1)); replace HO662 := Aside0.mk (Kd.R_mono (Kd.R_told (Kd.R_told (Kd.R_old (rk HO662) hb) (Kd.R_base ho0)) (Kd.R_base ho1)) (fun _ h_ => h_.1)); replace HO672 := Aside0.mk (Kd.R_mono (Kd.R_told (Kd.R_told (Kd.R_old (rk HO672) hb) (Kd.R_base ho0)) (Kd.R_base ho1)) (fun _ h_ => h_.1)); replace HO675 := Aside0.mk (Kd.R_mono (Kd.R_told (Kd.R_told (Kd.R_old (rk HO675) hb) (Kd.R_base ho0)) (Kd.R_base ho1)) (fun _ h_ => h_.1)); replace BK587 := Aside0.mk (bb BK587 hb); replace BK588 := Aside0.mk (bb BK588 hb); replace BK625 := Aside0.mk (bb BK625 hb); replace BK638 := Aside0.mk (bb BK638 hb); replace BK651 := Aside0.mk (bb BK651 hb); replace BK664 := Aside0.mk (bb BK664 hb); replace BK677 := Aside0.mk (bb BK677 hb); replace HB := Aside0.mk (below_step (bs HB (by simp [ag, GE587.out, GE588.out, GE625.out, GE638.out, GE651.out, GE664.out, GE677.out])) hb); clear ho0 hb; (try clear ho1)) | ((with_reducible refine gate_dst (N := 21) rfl ?_); refine box_event rfl (N := 21) rfl (cs := #[.int .i64 0, .int .i64 0, .int .i64 0, .int .i64 0, .int .i64 0, .slice none 0 0, .slice none 0 0]) (t := 42) (by first | (go_simp; done) | (go_simp; rfl)) ?_; intro gb690 hg w103 hbox hb; replace HO_1 := Aside0.mk (Kd.V_below (Kd.V_elderB (vk HO_1) gb690 (Nat.le_of_eq hg.symm)) hb); replace HO_588005 := Aside0.mk (Kd.R_below (rk HO_588005) hb); replace HO_588006 := Aside0.mk (Kd.R_below (rk HO_588006) hb); replace HO607 := Aside0.mk (Kd.R_below (rk HO607) hb); replace HO611 := Aside0.mk (Kd.R_below (rk HO611) hb); replace HO620 := Aside0.mk (Kd.R_below (rk HO620) hb); replace HO623 := Aside0.mk (Kd.R_below (rk HO623) hb); replace HO633 := Aside0.mk (Kd.R_below (rk HO633) hb); replace HO636 := Aside0.mk (Kd.R_below (rk HO636) hb); replace HO646 := Aside0.mk (Kd.R_below (rk HO646) hb); replace HO649 := Aside0.mk (Kd.R_below (rk HO649) hb); replace HO659 := Aside0.mk (Kd.R_below (rk HO659) hb); replace HO662 := Aside0.mk (Kd.R_below (rk HO662) hb); replace HO672 := Aside0.mk (Kd.R_below (rk HO672) hb); replace HO675 := Aside0.mk (Kd.R_below (rk HO675) hb); replace HO685 := Aside0.mk (Kd.R_below (rk HO685) hb); replace HO688 := Aside0.mk (Kd.R_below (rk HO688) hb); have BK690 := Aside0.mk (hbox); have GW690 := gl HB hg (by simp [ag, GE587.out, GE588.out, GE625.out, GE638.out, GE651.out, GE664.out, GE677.out]); have GE690 := gl HB hg (by simp [ag, GE587.out, GE588.out, GE625.out, GE638.out, GE651.out, GE664.out, GE677.out]); replace HB := Aside0.mk (below_step (bs HB (by simp [ag, GE587.out, GE588.out, GE625.out, GE638.out, GE651.out, GE664.out, GE677.out])) hb); have NB587_690 := nl BK587 hg; have NB690_587 := nt BK587 hg; replace BK587 := Aside0.mk (bb BK587 hb); have NB588_690 := nl BK588 hg; have NB690_588 := nt BK588 hg; replace BK588 := Aside0.mk (bb BK588 hb); have NB625_690 := nl BK625 hg; have NB690_625 := nt BK625 hg; replace BK625 := Aside0.mk (bb BK625 hb); have NB638_690 := nl BK638 hg; have NB690_638 := nt BK638 hg; replace BK638 := Aside0.mk (bb BK638 hb); have NB651_690 := nl BK651 hg; have NB690_651 := nt BK651 hg; replace BK651 := Aside0.mk (bb BK651 hb); have NB664_690 := nl BK664 hg; have NB690_664 := nt BK664 hg; replace BK664 := Aside0.mk (bb BK664 hb); have NB677_690 := nl BK677 hg; have NB690_677 := nt BK677 hg; replace BK677 := Aside0.mk (bb BK677 hb); clear hb hbox hg; have hnb104 := NB690_587.out; have hnc104 := NB587_690.out; have hnb105 := NB690_588.out; have hnc105 := NB588_690.out; have hnb106 := NB690_625.out; have hnc106 := NB625_690.out; have hnb107 := NB690_638.out; have hnc107 := NB638_690.out; have hnb108 := NB690_651.out; have hnc108 := NB651_690.out; have hnb109 := NB690_664.out; have hnc109 := NB664_690.out; have hnb110 := NB690_677.out; have hnc110 := NB677_690.out; obtain ⟨hcz111_0, hcz111_1, hcz111_2, hcz111_3, hcz111_4, hcz111_5, hcz111_6, hfz111_0, hfz111_1, hfz111_2, hfz111_3, hfz111_4, hfz111_5, hfz111_6⟩ := cf7 BK690; obtain ⟨Ao112, co112, eo112⟩ := Kd.R_slice HO685.out; subst eo112; obtain ⟨Ao113, co113, eo113⟩ := Kd.R_slice HO688.out; subst eo113) | ((with_reducible refine gate_store (t := 42) (p := 21) rfl ?_); refine store_event (t := 42) (p := 21) (v := ?vo_w114) (w1 := (((((((w103.setCell ⟨gb690, 0, none⟩ (.int .i64 t678)).setCell ⟨gb690, 1, none⟩ (.int .i64 t679)).setCell ⟨gb690, 2, none⟩ (.int .i64 t680)).setCell ⟨gb690, 3, none⟩ (.int .i64 t681)).setCell ⟨gb690, 4, none⟩ (.int .i64 t682)).setCell ⟨gb690, 5, none⟩ (.slice Ao112 t683.length co112)).setCell ⟨gb690, 6, none⟩ (.slice Ao113 t686.length co113))) ?hg ?ho ?hn ?hr ?_; (case ho => rfl); (case hg => rfl); (case hn => rfl); (case hr => first | (go_simp; done) | (go_simp; rfl)); intro w114 hw; have n0_ : Aside0 (Kd.V (Kd.int .u8) 5 w114 w.heap.size (fun k_ => (P1_ k_ ∨ w.heap.size ≤ k_) ∧ nB k_ Ao12 t594 co12 ∧ nB k_ Ao13 t597 co13 ∧ some k_ ≠ (v606 : Value).ownBlock ∧ some k_ ≠ (v610 : Value).ownBlock ∧ nB k_ Ao53 t618 co53 ∧ nB k_ Ao54 t621 co54 ∧ nB k_ Ao62 t631 co62 ∧ nB k_ Ao63 t634 co63 ∧ nB k_ Ao73 t644 co73 ∧ nB k_ Ao74 t647 co74 ∧ nB k_ Ao85 t657 co85 ∧ nB k_ Ao86 t660 co86 ∧ nB k_ Ao98 t670 co98 ∧ nB k_ Ao99 t673 co99 ∧ nB k_ Ao112 t683 co112 ∧ nB k_ Ao113 t686 co113 ∧ k_ ≠ gb587 ∧ k_ ≠ gb588 ∧ k_ ≠ gb625 ∧ k_ ≠ gb638 ∧ k_ ≠ gb651 ∧ k_ ≠ gb664 ∧ k_ ≠ gb677 ∧ k_ ≠ gb690) (.slice Ao47 x1_4.length co47) x1_4) := ⟨(by rw [hw]; exact (vf7 HO_1.out (fun _ hk => hk.2) (fun _ hk => by (try simp only [nB] at hk ⊢); simp [hk])))⟩; have n1_ : Aside0 (Kd.R (Kd.int .i64) 3 w114 w.heap.size (fun k_ => (w.heap.size ≤ k_) ∧ nB k_ Ao13 t597 co13 ∧ nB k_ Ao53 t618 co53 ∧ nB k_ Ao54 t621 co54 ∧ nB k_ Ao62 t631 co62 ∧ nB k_ Ao63 t634 co63 ∧ nB k_ Ao73 t644 co73 ∧ nB k_ Ao74 t647 co74 ∧ nB k_ Ao85 t657 co85 ∧ nB k_ Ao86 t660 co86 ∧ nB k_ Ao98 t670 co98 ∧ nB k_ Ao99 t673 co99 ∧ nB k_ Ao112 t683 co112 ∧ nB k_ Ao113 t686 co113) (.slice Ao12 t594.length co12) t594) := ⟨(by rw [hw]; exact (rf7 HO_588005.out BK690.out (by decide) (fun _ hk => by (try simp only [nB] at hk ⊢); simp [hk])))⟩; have n2_ : Aside0 (Kd.R (Kd.int .i64) 3 w114 w.heap.size (fun k_ => (w.heap.size ≤ k_) ∧ nB k_ Ao12 t594 co12 ∧ nB k_ Ao53 t618 co53 ∧ nB k_ Ao54 t621 co54 ∧ nB k_ Ao62 t631 co62 ∧ nB k_ Ao63 t634 co63 ∧ nB k_ Ao73 t644 co73 ∧ nB k_ Ao74 t647 co74 ∧ nB k_ Ao85 t657 co85 ∧ nB k_ Ao86 t660 co86 ∧ nB k_ Ao98 t670 co98 ∧ nB k_ Ao99 t673 co99 ∧ nB k_ Ao112 t683 co112 ∧ nB k_ Ao113 t686 co113) (.slice Ao13 t597.length co13) t597) := ⟨(by rw [hw]; exact (rf7 HO_588006.out BK690.out (by decide) (fun _ hk => by (try simp only [nB] at hk ⊢); simp [hk])))⟩; have n3_ : Aside0 (Kd.R (Kd.int .u8) 84 w114 w.heap.size (fun k_ => (w.heap.size ≤ k_) ∧ some k_ ≠ (v610 : Value).ownBlock) v606 t605) := ⟨(by rw [hw]; exact (rf7 HO607.out BK690.out (by decide) (fun _ hk => ⟨hk.1.1, hk.1.2⟩)))⟩; have n4_ : Aside0 (Kd.R (Kd.int .u8) 5 w114 w.heap.size (fun k_ => (w.heap.size ≤ k_) ∧ some k_ ≠ (v606 : Value).ownBlock) v610 t609) := ⟨(by rw [hw]; exact (rf7 HO611.out BK690.out (by decide) (fun _ hk => ⟨hk.1.1, hk.1.2⟩)))⟩; have n5_ : Aside0 (Kd.R (Kd.int .i64) 3 w114 w.heap.size (fun k_ => (w.heap.size ≤ k_) ∧ nB k_ Ao12 t594 co12 ∧ nB k_ Ao13 t597 co13 ∧ nB k_ Ao54 t621 co54 ∧ nB k_ Ao62 t631 co62 ∧ nB k_ Ao63 t634 co63 ∧ nB k_ Ao73 t644 co73 ∧ nB k_ Ao74 t647 co74 ∧ nB k_ Ao85 t657 co85 ∧ nB k_ Ao86 t660 co86 ∧ nB k_ Ao98 t670 co98 ∧ nB k_ Ao99 t673 co99 ∧ nB k_ Ao112 t683 co112 ∧ nB k_ Ao113 t686 co113) (.slice Ao53 t618.length co53) t618) := ⟨(by rw [hw]; exact (rf7 HO620.out BK690.out (by decide) (fun _ hk => by (try simp only [nB] at hk ⊢); simp [hk])))⟩; have n6_ : Aside0 (Kd.R (Kd.int .i64) 3 w114 w.heap.size (fun k_ => (w.heap.size ≤ k_) ∧ nB k_ Ao12 t594 co12 ∧ nB k_ Ao13 t597 co13 ∧ nB k_ Ao53 t618 co53 ∧ nB k_ Ao62 t631 co62 ∧ nB k_ Ao63 t634 co63 ∧ nB k_ Ao73 t644 co73 ∧ nB k_ Ao74 t647 co74 ∧ nB k_ Ao85 t657 co85 ∧ nB k_ Ao86 t660 co86 ∧ nB k_ Ao98 t670 co98 ∧ nB k_ Ao99 t673 co99 ∧ nB k_ Ao112 t683 co112 ∧ nB k_ Ao113 t686 co113) (.slice Ao54 t621.length co54) t621) := ⟨(by rw [hw]; exact (rf7 HO623.out BK690.out (by decide) (fun _ hk => by (try simp only [nB] at hk ⊢); simp [hk])))⟩; have n7_ : Aside0 (Kd.R (Kd.int .i64) 3 w114 w.heap.size (fun k_ => (w.heap.size ≤ k_) ∧ nB k_ Ao12 t594 co12 ∧ nB k_ Ao13 t597 co13 ∧ nB k_ Ao53 t618 co53 ∧ nB k_ Ao54 t621 co54 ∧ nB k_ Ao63 t634 co63 ∧ nB k_ Ao73 t644 co73 ∧ nB k_ Ao74 t647 co74 ∧ nB k_ Ao85 t657 co85 ∧ nB k_ Ao86 t660 co86 ∧ nB k_ Ao98 t670 co98 ∧ nB k_ Ao99 t673 co99 ∧ nB k_ Ao112 t683 co112 ∧ nB k_ Ao113 t686 co113) (.slice Ao62 t631.length co62) t631) := ⟨(by rw [hw]; exact (rf7 HO633.out BK690.out (by decide) (fun _ hk => by (try simp only [nB] at hk ⊢); simp [hk])))⟩; have n8_ : Aside0 (Kd.R (Kd.int .i64) 3 w114 w.heap.size (fun k_ => (w.heap.size ≤ k_) ∧ nB k_ Ao12 t594 co12 ∧ nB k_ Ao13 t597 co13 ∧ nB k_ Ao53 t618 co53 ∧ nB k_ Ao54 t621 co54 ∧ nB k_ Ao62 t631 co62 ∧ nB k_ Ao73 t644 co73 ∧ nB k_ Ao74 t647 co74 ∧ nB k_ Ao85 t657 co85 ∧ nB k_ Ao86 t660 co86 ∧ nB k_ Ao98 t670 co98 ∧ nB k_ Ao99 t673 co99 ∧ nB k_ Ao112 t683 co112 ∧ nB k_ Ao113 t686 co113) (.slice Ao63 t634.length co63) t634) := ⟨(by rw [hw]; exact (rf7 HO636.out BK690.out (by decide) (fun _ hk => by (try simp only [nB] at hk ⊢); simp [hk])))⟩; have n9_ : Aside0 (Kd.R (Kd.int .i64) 3 w114 w.heap.size (fun k_ => (w.heap.size ≤ k_) ∧ nB k_ Ao12 t594 co12 ∧ nB k_ Ao13 t597 co13 ∧ nB k_ Ao53 t618 co53 ∧ nB k_ Ao54 t621 co54 ∧ nB k_ Ao62 t631 co62 ∧ nB k_ Ao63 t634 co63 ∧ nB k_ Ao74 t647 co74 ∧ nB k_ Ao85 t657 co85 ∧ nB k_ Ao86 t660 co86 ∧ nB k_ Ao98 t670 co98 ∧ nB k_ Ao99 t673 co99 ∧ nB k_ Ao112 t683 co112 ∧ nB k_ Ao113 t686 co113) (.slice Ao73 t644.length co73) t644) := ⟨(by rw [hw]; exact (rf7 HO646.out BK690.out (by decide) (fun _ hk => by (try simp only [nB] at hk ⊢); simp [hk])))⟩; have n10_ : Aside0 (Kd.R (Kd.int .i64) 3 w114 w.heap.size (fun k_ => (w.heap.size ≤ k_) ∧ nB k_ Ao12 t594 co12 ∧ nB k_ Ao13 t597 co13 ∧ nB k_ Ao53 t618 co53 ∧ nB k_ Ao54 t621 co54 ∧ nB k_ Ao62 t631 co62 ∧ nB k_ Ao63 t634 co63 ∧ nB k_ Ao73 t644 co73 ∧ nB k_ Ao85 t657 co85 ∧ nB k_ Ao86 t660 co86 ∧ nB k_ Ao98 t670 co98 ∧ nB k_ Ao99 t673 co99 ∧ nB k_ Ao112 t683 co112 ∧ nB k_ Ao113 t686 co113) (.slice Ao74 t647.length co74) t647) := ⟨(by rw [hw]; exact (rf7 HO649.out BK690.out (by decide) (fun _ hk => by (try simp only [nB] at hk ⊢); simp [hk])))⟩; have n11_ : Aside0 (Kd.R (Kd.int .i64) 3 w114 w.heap.size (fun k_ => (w.heap.size ≤ k_) ∧ nB k_ Ao12 t594 co12 ∧ nB k_ Ao13 t597 co13 ∧ nB k_ Ao53 t618 co53 ∧ nB k_ Ao54 t621 co54 ∧ nB k_ Ao62 t631 co62 ∧ nB k_ Ao63 t634 co63 ∧ nB k_ Ao73 t644 co73 ∧ nB k_ Ao74 t647 co74 ∧ nB k_ Ao86 t660 co86 ∧ nB k_ Ao98 t670 co98 ∧ nB k_ Ao99 t673 co99 ∧ nB k_ Ao112 t683 co112 ∧ nB k_ Ao113 t686 co113) (.slice Ao85 t657.length co85) t657) := ⟨(by rw [hw]; exact (rf7 HO659.out BK690.out (by decide) (fun _ hk => by (try simp only [nB] at hk ⊢); simp [hk])))⟩; have n12_ : Aside0 (Kd.R (Kd.int .i64) 3 w114 w.heap.size (fun k_ => (w.heap.size ≤ k_) ∧ nB k_ Ao12 t594 co12 ∧ nB k_ Ao13 t597 co13 ∧ nB k_ Ao53 t618 co53 ∧ nB k_ Ao54 t621 co54 ∧ nB k_ Ao62 t631 co62 ∧ nB k_ Ao63 t634 co63 ∧ nB k_ Ao73 t644 co73 ∧ nB k_ Ao74 t647 co74 ∧ nB k_ Ao85 t657 co85 ∧ nB k_ Ao98 t670 co98 ∧ nB k_ Ao99 t673 co99 ∧ nB k_ Ao112 t683 co112 ∧ nB k_ Ao113 t686 co113) (.slice Ao86 t660.length co86) t660) := ⟨(by rw [hw]; exact (rf7 HO662.out BK690.out (by decide) (fun _ hk => by (try simp only [nB] at hk ⊢); simp [hk])))⟩; have n13_ : Aside0 (Kd.R (Kd.int .i64) 3 w114 w.heap.size (fun k_ => (w.heap.size ≤ k_) ∧ nB k_ Ao12 t594 co12 ∧ nB k_ Ao13 t597 co13 ∧ nB k_ Ao53 t618 co53 ∧ nB k_ Ao54 t621 co54 ∧ nB k_ Ao62 t631 co62 ∧ nB k_ Ao63 t634 co63 ∧ nB k_ Ao73 t644 co73 ∧ nB k_ Ao74 t647 co74 ∧ nB k_ Ao85 t657 co85 ∧ nB k_ Ao86 t660 co86 ∧ nB k_ Ao99 t673 co99 ∧ nB k_ Ao112 t683 co112 ∧ nB k_ Ao113 t686 co113) (.slice Ao98 t670.length co98) t670) := ⟨(by rw [hw]; exact (rf7 HO672.out BK690.out (by decide) (fun _ hk => by (try simp only [nB] at hk ⊢); simp [hk])))⟩; have n14_ : Aside0 (Kd.R (Kd.int .i64) 3 w114 w.heap.size (fun k_ => (w.heap.size ≤ k_) ∧ nB k_ Ao12 t594 co12 ∧ nB k_ Ao13 t597 co13 ∧ nB k_ Ao53 t618 co53 ∧ nB k_ Ao54 t621 co54 ∧ nB k_ Ao62 t631 co62 ∧ nB k_ Ao63 t634 co63 ∧ nB k_ Ao73 t644 co73 ∧ nB k_ Ao74 t647 co74 ∧ nB k_ Ao85 t657 co85 ∧ nB k_ Ao86 t660 co86 ∧ nB k_ Ao98 t670 co98 ∧ nB k_ Ao112 t683 co112 ∧ nB k_ Ao113 t686 co113) (.slice Ao99 t673.length co99) t673) := ⟨(by rw [hw]; exact (rf7 HO675.out BK690.out (by decide) (fun _ hk => by (try simp only [nB] at hk ⊢); simp [hk])))⟩; have n15_ : Aside0 (Kd.R (Kd.int .i64) 3 w114 w.heap.size (fun k_ => (w.heap.size ≤ k_) ∧ nB k_ Ao12 t594 co12 ∧ nB k_ Ao13 t597 co13 ∧ nB k_ Ao53 t618 co53 ∧ nB k_ Ao54 t621 co54 ∧ nB k_ Ao62 t631 co62 ∧ nB k_ Ao63 t634 co63 ∧ nB k_ Ao73 t644 co73 ∧ nB k_ Ao74 t647 co74 ∧ nB k_ Ao85 t657 co85 ∧ nB k_ Ao86 t660 co86 ∧ nB k_ Ao98 t670 co98 ∧ nB k_ Ao99 t673 co99 ∧ nB k_ Ao113 t686 co113) (.slice Ao112 t683.length co112) t683) := ⟨(by rw [hw]; exact (rf7 HO685.out BK690.out (by decide) (fun _ hk => by (try simp only [nB] at hk ⊢); simp [hk])))⟩; have n16_ : Aside0 (Kd.R (Kd.int .i64) 3 w114 w.heap.size (fun k_ => (w.heap.size ≤ k_) ∧ nB k_ Ao12 t594 co12 ∧ nB k_ Ao13 t597 co13 ∧ nB k_ Ao53 t618 co53 ∧ nB k_ Ao54 t621 co54 ∧ nB k_ Ao62 t631 co62 ∧ nB k_ Ao63 t634 co63 ∧ nB k_ Ao73 t644 co73 ∧ nB k_ Ao74 t647 co74 ∧ nB k_ Ao85 t657 co85 ∧ nB k_ Ao86 t660 co86 ∧ nB k_ Ao98 t670 co98 ∧ nB k_ Ao99 t673 co99 ∧ nB k_ Ao112 t683 co112) (.slice Ao113 t686.length co113) t686) := ⟨(by rw [hw]; exact (rf7 HO688.out BK690.out (by decide) (fun _ hk => by (try simp only [nB] at hk ⊢); simp [hk])))⟩; have n17_ : Aside0 (w114.heap[gb587]? = some (.cells #[.int .i64 t589, .int .i64 t590, .int .i64 t591, .int .i64 t592, .int .i64 t593, .slice Ao12 t594.length co12, .slice Ao13 t597.length co13] 42 (0, 0))) := ⟨(by rw [hw]; exact bf7 BK587.out NB587_690.out)⟩; have n18_ : Aside0 (w114.heap[gb588]? = some (.cells #[.int .i64 a2_0, .int .i64 a2_1] 51 (0, 0))) := ⟨(by rw [hw]; exact bf7 BK588.out NB588_690.out)⟩; have n19_ : Aside0 (w114.heap[gb625]? = some (.cells #[.int .i64 t613, .int .i64 t614, .int .i64 t615, .int .i64 t616, .int .i64 t617, .slice Ao53 t618.length co53, .slice Ao54 t621.length co54] 42 (0, 0))) := ⟨(by rw [hw]; exact bf7 BK625.out NB625_690.out)⟩; have n20_ : Aside0 (w114.heap[gb638]? = some (.cells #[.int .i64 t626, .int .i64 t627, .int .i64 t628, .int .i64 t629, .int .i64 t630, .slice Ao62 t631.length co62, .slice Ao63 t634.length co63] 42 (0, 0))) := ⟨(by rw [hw]; exact bf7 BK638.out NB638_690.out)⟩; have n21_ : Aside0 (w114.heap[gb651]? = some (.cells #[.int .i64 t639, .int .i64 t640, .int .i64 t641, .int .i64 t642, .int .i64 t643, .slice Ao73 t644.length co73, .slice Ao74 t647.length co74] 42 (0, 0))) := ⟨(by rw [hw]; exact bf7 BK651.out NB651_690.out)⟩; have n22_ : Aside0 (w114.heap[gb664]? = some (.cells #[.int .i64 t652, .int .i64 t653, .int .i64 t654, .int .i64 t655, .int .i64 t656, .slice Ao85 t657.length co85, .slice Ao86 t660.length co86] 42 (0, 0))) := ⟨(by rw [hw]; exact bf7 BK664.out NB664_690.out)⟩; have n23_ : Aside0 (w114.heap[gb677]? = some (.cells #[.int .i64 t665, .int .i64 t666, .int .i64 t667, .int .i64 t668, .int .i64 t669, .slice Ao98 t670.length co98, .slice Ao99 t673.length co99] 42 (0, 0))) := ⟨(by rw [hw]; exact bf7 BK677.out NB677_690.out)⟩; have n24_ : Aside0 (w114.heap[gb690]? = some (.cells #[.int .i64 t678, .int .i64 t679, .int .i64 t680, .int .i64 t681, .int .i64 t682, .slice Ao112 t683.length co112, .slice Ao113 t686.length co113] 42 (0, 0))) := ⟨(by rw [hw]; exact bp7 BK690.out)⟩; have n25_ : Aside0 (Below w.heap.size w w114) := ⟨(by rw [hw]; exact (bs HB (by simp [ag, GE587.out, GE588.out, GE625.out, GE638.out, GE651.out, GE664.out, GE677.out, GE690.out])))⟩; clear hw; clear HO_1; clear HO_588005; clear HO_588006; clear HO607; clear HO611; clear HO620; clear HO623; clear HO633; clear HO636; clear HO646; clear HO649; clear HO659; clear HO662; clear HO672; clear HO675; clear HO685; clear HO688; clear BK587; clear BK588; clear BK625; clear BK638; clear BK651; clear BK664; clear BK677; clear BK690; clear HB; have HO_1 := n0_; have HO_588005 := n1_; have HO_588006 := n2_; have HO607 := n3_; have HO611 := n4_; have HO620 := n5_; have HO623 := n6_; have HO633 := n7_; have HO636 := n8_; have HO646 := n9_; have HO649 := n10_; have HO659 := n11_; have HO662 := n12_; have HO672 := n13_; have HO675 := n14_; have HO685 := n15_; have HO688 := n16_; have BK587 := n17_; have BK588 := n18_; have BK625 := n19_; have BK638 := n20_; have BK651 := n21_; have BK664 := n22_; have BK677 := n23_; have BK690 := n24_; have HB := n25_; clear n0_ n1_ n2_ n3_ n4_ n5_ n6_ n7_ n8_ n9_ n10_ n11_ n12_ n13_ n14_ n15_ n16_ n17_ n18_ n19_ n20_ n21_ n22_ n23_ n24_ n25_))
   have n0_ := Aside0.mk (Kd.V_drew HO_1.out)
   have n1_ := Aside0.mk (Kd.R_drew HO_588005.out)
   have n2_ := Aside0.mk (Kd.R_drew HO_588006.out)
   have n3_ := Aside0.mk (Kd.R_drew HO607.out)
   have n4_ := Aside0.mk (Kd.R_drew HO611.out)
   have n5_ := Aside0.mk (Kd.R_drew HO620.out)
   have n6_ := Aside0.mk (Kd.R_drew HO623.out)
   have n7_ := Aside0.mk (Kd.R_drew HO633.out)
   have n8_ := Aside0.mk (Kd.R_drew HO636.out)
   have n9_ := Aside0.mk (Kd.R_drew HO646.out)
   have n10_ := Aside0.mk (Kd.R_drew HO649.out)
   have n11_ := Aside0.mk (Kd.R_drew HO659.out)
   have n12_ := Aside0.mk (Kd.R_drew HO662.out)
   have n13_ := Aside0.mk (Kd.R_drew HO672.out)
   have n14_ := Aside0.mk (Kd.R_drew HO675.out)
   have n15_ := Aside0.mk (Kd.R_drew HO685.out)
   have n16_ := Aside0.mk (Kd.R_drew HO688.out)
   have n17_ := Aside0.mk (blk_drew BK587.out)
   have n18_ := Aside0.mk (blk_drew BK588.out)
   have n19_ := Aside0.mk (blk_drew BK625.out)
   have n20_ := Aside0.mk (blk_drew BK638.out)
   have n21_ := Aside0.mk (blk_drew BK651.out)
   have n22_ := Aside0.mk (blk_drew BK664.out)
   have n23_ := Aside0.mk (blk_drew BK677.out)
   have n24_ := Aside0.mk (blk_drew BK690.out)
   have n25_ := Aside0.mk (below_drew1 HB.out)
   clear HO_1
   clear HO_588005
   clear HO_588006
   clear HO607
   clear HO611
   clear HO620
   clear HO623
   clear HO633
   clear HO636
   clear HO646
   clear HO649
   clear HO659
   clear HO662
   clear HO672
   clear HO675
   clear HO685
   clear HO688
   clear BK587
   clear BK588
   clear BK625
   clear BK638
   clear BK651
   clear BK664
   clear BK677
   clear BK690
   clear HB
   have HO_1 := n0_
   have HO_588005 := n1_
   have HO_588006 := n2_
   have HO607 := n3_
   have HO611 := n4_
   have HO620 := n5_
   have HO623 := n6_
   have HO633 := n7_
   have HO636 := n8_
   have HO646 := n9_
   have HO649 := n10_
   have HO659 := n11_
   have HO662 := n12_
   have HO672 := n13_
   have HO675 := n14_
   have HO685 := n15_
   have HO688 := n16_
   have BK587 := n17_
   have BK588 := n18_
   have BK625 := n19_
   have BK638 := n20_
   have BK651 := n21_
   have BK664 := n22_
   have BK677 := n23_
   have BK690 := n24_
   have HB := n25_
   clear n0_ n1_ n2_ n3_ n4_ n5_ n6_ n7_ n8_ n9_ n10_ n11_ n12_ n13_ n14_ n15_ n16_ n17_ n18_ n19_ n20_ n21_ n22_ n23_ n24_ n25_
   refine start_ (n := 51) (S := fun w' => w'.cell? ⟨gb625, 0, none⟩ = some (.int .i64 t613) ∧ w'.cell? ⟨gb625, 1, none⟩ = some (.int .i64 t614) ∧ w'.cell? ⟨gb625, 2, none⟩ = some (.int .i64 t615) ∧ w'.cell? ⟨gb625, 3, none⟩ = some (.int .i64 t616) ∧ w'.cell? ⟨gb625, 4, none⟩ = some (.int .i64 t617) ∧ w'.cell? ⟨gb625, 5, none⟩ = some (.slice Ao53 t618.length co53) ∧ w'.cell? ⟨gb625, 6, none⟩ = some (.slice Ao54 t621.length co54) ∧ w'.cell? ⟨gb638, 0, none⟩ = some (.int .i64 t626) ∧ w'.cell? ⟨gb638, 1, none⟩ = some (.int .i64 t627) ∧ w'.cell? ⟨gb638, 2, none⟩ = some (.int .i64 t628) ∧ w'.cell? ⟨gb638, 3, none⟩ = some (.int .i64 t629) ∧ w'.cell? ⟨gb638, 4, none⟩ = some (.int .i64 t630) ∧ w'.cell? ⟨gb638, 5, none⟩ = some (.slice Ao62 t631.length co62) ∧ w'.cell? ⟨gb638, 6, none⟩ = some (.slice Ao63 t634.length co63) ∧ w'.cell? ⟨gb651, 0, none⟩ = some (.int .i64 t639) ∧ w'.cell? ⟨gb651, 1, none⟩ = some (.int .i64 t640) ∧ w'.cell? ⟨gb651, 2, none⟩ = some (.int .i64 t641) ∧ w'.cell? ⟨gb651, 3, none⟩ = some (.int .i64 t642) ∧ w'.cell? ⟨gb651, 4, none⟩ = some (.int .i64 t643) ∧ w'.cell? ⟨gb651, 5, none⟩ = some (.slice Ao73 t644.length co73) ∧ w'.cell? ⟨gb651, 6, none⟩ = some (.slice Ao74 t647.length co74) ∧ w'.cell? ⟨gb664, 0, none⟩ = some (.int .i64 t652) ∧ w'.cell? ⟨gb664, 1, none⟩ = some (.int .i64 t653) ∧ w'.cell? ⟨gb664, 2, none⟩ = some (.int .i64 t654) ∧ w'.cell? ⟨gb664, 3, none⟩ = some (.int .i64 t655) ∧ w'.cell? ⟨gb664, 4, none⟩ = some (.int .i64 t656) ∧ w'.cell? ⟨gb664, 5, none⟩ = some (.slice Ao85 t657.length co85) ∧ w'.cell? ⟨gb664, 6, none⟩ = some (.slice Ao86 t660.length co86) ∧ w'.cell? ⟨gb677, 0, none⟩ = some (.int .i64 t665) ∧ w'.cell? ⟨gb677, 1, none⟩ = some (.int .i64 t666) ∧ w'.cell? ⟨gb677, 2, none⟩ = some (.int .i64 t667) ∧ w'.cell? ⟨gb677, 3, none⟩ = some (.int .i64 t668) ∧ w'.cell? ⟨gb677, 4, none⟩ = some (.int .i64 t669) ∧ w'.cell? ⟨gb677, 5, none⟩ = some (.slice Ao98 t670.length co98) ∧ w'.cell? ⟨gb677, 6, none⟩ = some (.slice Ao99 t673.length co99) ∧ w'.cell? ⟨gb690, 0, none⟩ = some (.int .i64 t678) ∧ w'.cell? ⟨gb690, 1, none⟩ = some (.int .i64 t679) ∧ w'.cell? ⟨gb690, 2, none⟩ = some (.int .i64 t680) ∧ w'.cell? ⟨gb690, 3, none⟩ = some (.int .i64 t681) ∧ w'.cell? ⟨gb690, 4, none⟩ = some (.int .i64 t682) ∧ w'.cell? ⟨gb690, 5, none⟩ = some (.slice Ao112 t683.length co112) ∧ w'.cell? ⟨gb690, 6, none⟩ = some (.slice Ao113 t686.length co113) ∧ w'.cell? ⟨gb587, 0, none⟩ = some (.int .i64 t589) ∧ w'.cell? ⟨gb587, 1, none⟩ = some (.int .i64 t590) ∧ w'.cell? ⟨gb587, 2, none⟩ = some (.int .i64 t591) ∧ w'.cell? ⟨gb587, 3, none⟩ = some (.int .i64 t592) ∧ w'.cell? ⟨gb587, 4, none⟩ = some (.int .i64 t593) ∧ w'.cell? ⟨gb587, 5, none⟩ = some (.slice Ao12 t594.length co12) ∧ w'.cell? ⟨gb587, 6, none⟩ = some (.slice Ao13 t597.length co13)) (ds := []) #[false, false, false, false, false, false, false, false, false, false, false, false, false, false, false, false, false, false, false, false, false, false, false, false, false, false, false, false, false, false, false, false, false, false, false, false, false, false, false, false, false, false, false, false, false, false, false, false, false, false, false] (by kernel_rfl) rfl rfl ⟨(blk_cell BK625.out 0).trans rfl, (blk_cell BK625.out 1).trans rfl, (blk_cell BK625.out 2).trans rfl, (blk_cell BK625.out 3).trans rfl, (blk_cell BK625.out 4).trans rfl, (blk_cell BK625.out 5).trans rfl, (blk_cell BK625.out 6).trans rfl, (blk_cell BK638.out 0).trans rfl, (blk_cell BK638.out 1).trans rfl, (blk_cell BK638.out 2).trans rfl, (blk_cell BK638.out 3).trans rfl, (blk_cell BK638.out 4).trans rfl, (blk_cell BK638.out 5).trans rfl, (blk_cell BK638.out 6).trans rfl, (blk_cell BK651.out 0).trans rfl, (blk_cell BK651.out 1).trans rfl, (blk_cell BK651.out 2).trans rfl, (blk_cell BK651.out 3).trans rfl, (blk_cell BK651.out 4).trans rfl, (blk_cell BK651.out 5).trans rfl, (blk_cell BK651.out 6).trans rfl, (blk_cell BK664.out 0).trans rfl, (blk_cell BK664.out 1).trans rfl, (blk_cell BK664.out 2).trans rfl, (blk_cell BK664.out 3).trans rfl, (blk_cell BK664.out 4).trans rfl, (blk_cell BK664.out 5).trans rfl, (blk_cell BK664.out 6).trans rfl, (blk_cell BK677.out 0).trans rfl, (blk_cell BK677.out 1).trans rfl, (blk_cell BK677.out 2).trans rfl, (blk_cell BK677.out 3).trans rfl, (blk_cell BK677.out 4).trans rfl, (blk_cell BK677.out 5).trans rfl, (blk_cell BK677.out 6).trans rfl, (blk_cell BK690.out 0).trans rfl, (blk_cell BK690.out 1).trans rfl, (blk_cell BK690.out 2).trans rfl, (blk_cell BK690.out 3).trans rfl, (blk_cell BK690.out 4).trans rfl, (blk_cell BK690.out 5).trans rfl, (blk_cell BK690.out 6).trans rfl, (blk_cell BK587.out 0).trans rfl, (blk_cell BK587.out 1).trans rfl, (blk_cell BK587.out 2).trans rfl, (blk_cell BK587.out 3).trans rfl, (blk_cell BK587.out 4).trans rfl, (blk_cell BK587.out 5).trans rfl, (blk_cell BK587.out 6).trans rfl⟩ (fun hHeld => ?_); refine with_tabW selvedgelaw18_CylCodes.tab12 selvedgelaw18_CylCodes.bits12 (fun HT_ HW_ => ?_)
   generalize w114.drew = w115 at HO_1 HO_588005 HO_588006 HO607 HO611 HO620 HO623 HO633 HO636 HO646 HO649 HO659 HO662 HO672 HO675 HO685 HO688 BK587 BK588 BK625 BK638 BK651 BK664 BK677 BK690 HB hHeld ⊢
   refine one_ (i := 0) (N := some 76) (bA 51 1) rfl rfl (one_of HT_.out (by kernel_rfl)) (by decide) (fun K hK => ?_)
   refine goes_ Try.func17 (by kernel_rfl) rfl #[] (by rfl) rfl rfl (by (try simp only [List.map_toArray, List.map_cons, List.map_nil]); first | done | rfl | (simp only [List.length_drop, List.length_take]; rfl)) ?_
   with_reducible refine (selvedgelaw18_live.calls  true _ A26.out).mono ?_
   rintro e w116 ⟨rfl, hb⟩
   refine ⟨_, rfl, ?_⟩
   have n0_ := Aside0.mk (Kd.V_below (vk HO_1) hb)
   have n1_ := Aside0.mk (Kd.R_below (rk HO_588005) hb)
   have n2_ := Aside0.mk (Kd.R_below (rk HO_588006) hb)
   have n3_ := Aside0.mk (Kd.R_below (rk HO607) hb)
   have n4_ := Aside0.mk (Kd.R_below (rk HO611) hb)
   have n5_ := Aside0.mk (Kd.R_below (rk HO620) hb)
   have n6_ := Aside0.mk (Kd.R_below (rk HO623) hb)
   have n7_ := Aside0.mk (Kd.R_below (rk HO633) hb)
   have n8_ := Aside0.mk (Kd.R_below (rk HO636) hb)
   have n9_ := Aside0.mk (Kd.R_below (rk HO646) hb)
   have n10_ := Aside0.mk (Kd.R_below (rk HO649) hb)
   have n11_ := Aside0.mk (Kd.R_below (rk HO659) hb)
   have n12_ := Aside0.mk (Kd.R_below (rk HO662) hb)
   have n13_ := Aside0.mk (Kd.R_below (rk HO672) hb)
   have n14_ := Aside0.mk (Kd.R_below (rk HO675) hb)
   have n15_ := Aside0.mk (Kd.R_below (rk HO685) hb)
   have n16_ := Aside0.mk (Kd.R_below (rk HO688) hb)
   have n17_ := Aside0.mk (bb BK587 hb)
   have n18_ := Aside0.mk (bb BK588 hb)
   have n19_ := Aside0.mk (bb BK625 hb)
   have n20_ := Aside0.mk (bb BK638 hb)
   have n21_ := Aside0.mk (bb BK651 hb)
   have n22_ := Aside0.mk (bb BK664 hb)
   have n23_ := Aside0.mk (bb BK677 hb)
   have n24_ := Aside0.mk (bb BK690 hb)
   have n25_ := Aside0.mk (below_step (bs HB (by simp [ag, GE587.out, GE588.out, GE625.out, GE638.out, GE651.out, GE664.out, GE677.out, GE690.out])) hb)
   clear HO_1
   clear HO_588005
   clear HO_588006
   clear HO607
   clear HO611
   clear HO620
   clear HO623
   clear HO633
   clear HO636
   clear HO646
   clear HO649
   clear HO659
   clear HO662
   clear HO672
   clear HO675
   clear HO685
   clear HO688
   clear BK587
   clear BK588
   clear BK625
   clear BK638
   clear BK651
   clear BK664
   clear BK677
   clear BK690
   clear HB
   have HO_1 := n0_
   have HO_588005 := n1_
   have HO_588006 := n2_
   have HO607 := n3_
   have HO611 := n4_
   have HO620 := n5_
   have HO623 := n6_
   have HO633 := n7_
   have HO636 := n8_
   have HO646 := n9_
   have HO649 := n10_
   have HO659 := n11_
   have HO662 := n12_
   have HO672 := n13_
   have HO675 := n14_
   have HO685 := n15_
   have HO688 := n16_
   have BK587 := n17_
   have BK588 := n18_
   have BK625 := n19_
   have BK638 := n20_
   have BK651 := n21_
   have BK664 := n22_
   have BK677 := n23_
   have BK690 := n24_
   have HB := n25_
   clear n0_ n1_ n2_ n3_ n4_ n5_ n6_ n7_ n8_ n9_ n10_ n11_ n12_ n13_ n14_ n15_ n16_ n17_ n18_ n19_ n20_ n21_ n22_ n23_ n24_ n25_
   (try clear hb)
   (try clear hb2)
   (try clear hk)
   (try clear hi)
   refine hK.out _ _ ⟨(blk_cell BK625.out 0).trans rfl, (blk_cell BK625.out 1).trans rfl, (blk_cell BK625.out 2).trans rfl, (blk_cell BK625.out 3).trans rfl, (blk_cell BK625.out 4).trans rfl, (blk_cell BK625.out 5).trans rfl, (blk_cell BK625.out 6).trans rfl, (blk_cell BK638.out 0).trans rfl, (blk_cell BK638.out 1).trans rfl, (blk_cell BK638.out 2).trans rfl, (blk_cell BK638.out 3).trans rfl, (blk_cell BK638.out 4).trans rfl, (blk_cell BK638.out 5).trans rfl, (blk_cell BK638.out 6).trans rfl, (blk_cell BK651.out 0).trans rfl, (blk_cell BK651.out 1).trans rfl, (blk_cell BK651.out 2).trans rfl, (blk_cell BK651.out 3).trans rfl, (blk_cell BK651.out 4).trans rfl, (blk_cell BK651.out 5).trans rfl, (blk_cell BK651.out 6).trans rfl, (blk_cell BK664.out 0).trans rfl, (blk_cell BK664.out 1).trans rfl, (blk_cell BK664.out 2).trans rfl, (blk_cell BK664.out 3).trans rfl, (blk_cell BK664.out 4).trans rfl, (blk_cell BK664.out 5).trans rfl, (blk_cell BK664.out 6).trans rfl, (blk_cell BK677.out 0).trans rfl, (blk_cell BK677.out 1).trans rfl, (blk_cell BK677.out 2).trans rfl, (blk_cell BK677.out 3).trans rfl, (blk_cell BK677.out 4).trans rfl, (blk_cell BK677.out 5).trans rfl, (blk_cell BK677.out 6).trans rfl, (blk_cell BK690.out 0).trans rfl, (blk_cell BK690.out 1).trans rfl, (blk_cell BK690.out 2).trans rfl, (blk_cell BK690.out 3).trans rfl, (blk_cell BK690.out 4).trans rfl, (blk_cell BK690.out 5).trans rfl, (blk_cell BK690.out 6).trans rfl, (blk_cell BK587.out 0).trans rfl, (blk_cell BK587.out 1).trans rfl, (blk_cell BK587.out 2).trans rfl, (blk_cell BK587.out 3).trans rfl, (blk_cell BK587.out 4).trans rfl, (blk_cell BK587.out 5).trans rfl, (blk_cell BK587.out 6).trans rfl⟩ (fun hHeld => ?_)
   clear hK K
   refine norm_ (a' := ?_) ?_ ?_
   rotate_left
   ·show Act.put _ (some 76) _ = _
    simp only [Act.put, List.setIfInBounds_toArray, List.set_cons_zero, List.set_cons_succ, i64_w, i32_w]
    rfl
   refine pure_ (i := 1) (N := some 77) (v := ?_) (a' := ?_) (bA 51 3) rfl rfl (any_of HT_.out (by kernel_rfl)) (fun _ _ _ h => h) (Or.inl ⟨by rfl, ?_⟩) ?_ ?_
   rotate_left
   ·intro w'
    go_simp
    with_reducible rfl
   rotate_left
   ·simp only [Act.put, List.setIfInBounds_toArray, List.set_cons_zero, List.set_cons_succ, i64_w, i32_w]
    rfl
   refine pure_ (i := 2) (N := some 78) (v := ?_) (a' := ?_) (bA 51 7) rfl rfl (any_of HT_.out (by kernel_rfl)) (fun _ _ _ h => h) (Or.inl ⟨by rfl, ?_⟩) ?_ ?_
   rotate_left
   ·intro w'
    go_simp
    with_reducible rfl
   rotate_left
   ·simp only [Act.put, List.setIfInBounds_toArray, List.set_cons_zero, List.set_cons_succ, i64_w, i32_w]
    rfl
   refine pure_ (i := 4) (N := some 80) (v := ?_) (a' := ?_) (bA 51 23) rfl rfl (any_of HT_.out (by kernel_rfl)) (fun _ _ _ h => h) (Or.inl ⟨by rfl, ?_⟩) ?_ ?_
   rotate_left
   ·intro w'
    go_simp
    with_reducible rfl
   rotate_left
   ·simp only [Act.put, List.setIfInBounds_toArray, List.set_cons_zero, List.set_cons_succ, i64_w, i32_w]
    rfl
   refine join_ (σ := Unit) 45 #[true, true, true, true, true, true, false, false, false, false, false, false, false, false, false, false, false, false, false, false, false, false, false, false, false, false, false, false, false, false, false, false, false, false, false, false, false, false, false, false, false, false, false, false, false, false, false, false, false, false, false] (fun s_ => [(79, .string (strOfNums t605)), (81, .string (strOfNums t609))]) (fun s_ w' => (w'.cell? ⟨gb625, 0, none⟩ = some (.int .i64 t613) ∧ w'.cell? ⟨gb625, 1, none⟩ = some (.int .i64 t614) ∧ w'.cell? ⟨gb625, 2, none⟩ = some (.int .i64 t615) ∧ w'.cell? ⟨gb625, 3, none⟩ = some (.int .i64 t616) ∧ w'.cell? ⟨gb625, 4, none⟩ = some (.int .i64 t617) ∧ w'.cell? ⟨gb625, 5, none⟩ = some (.slice Ao53 t618.length co53) ∧ w'.cell? ⟨gb625, 6, none⟩ = some (.slice Ao54 t621.length co54) ∧ w'.cell? ⟨gb638, 0, none⟩ = some (.int .i64 t626) ∧ w'.cell? ⟨gb638, 1, none⟩ = some (.int .i64 t627) ∧ w'.cell? ⟨gb638, 2, none⟩ = some (.int .i64 t628) ∧ w'.cell? ⟨gb638, 3, none⟩ = some (.int .i64 t629) ∧ w'.cell? ⟨gb638, 4, none⟩ = some (.int .i64 t630) ∧ w'.cell? ⟨gb638, 5, none⟩ = some (.slice Ao62 t631.length co62) ∧ w'.cell? ⟨gb638, 6, none⟩ = some (.slice Ao63 t634.length co63) ∧ w'.cell? ⟨gb651, 0, none⟩ = some (.int .i64 t639) ∧ w'.cell? ⟨gb651, 1, none⟩ = some (.int .i64 t640) ∧ w'.cell? ⟨gb651, 2, none⟩ = some (.int .i64 t641) ∧ w'.cell? ⟨gb651, 3, none⟩ = some (.int .i64 t642) ∧ w'.cell? ⟨gb651, 4, none⟩ = some (.int .i64 t643) ∧ w'.cell? ⟨gb651, 5, none⟩ = some (.slice Ao73 t644.length co73) ∧ w'.cell? ⟨gb651, 6, none⟩ = some (.slice Ao74 t647.length co74) ∧ w'.cell? ⟨gb664, 0, none⟩ = some (.int .i64 t652) ∧ w'.cell? ⟨gb664, 1, none⟩ = some (.int .i64 t653) ∧ w'.cell? ⟨gb664, 2, none⟩ = some (.int .i64 t654) ∧ w'.cell? ⟨gb664, 3, none⟩ = some (.int .i64 t655) ∧ w'.cell? ⟨gb664, 4, none⟩ = some (.int .i64 t656) ∧ w'.cell? ⟨gb664, 5, none⟩ = some (.slice Ao85 t657.length co85) ∧ w'.cell? ⟨gb664, 6, none⟩ = some (.slice Ao86 t660.length co86) ∧ w'.cell? ⟨gb677, 0, none⟩ = some (.int .i64 t665) ∧ w'.cell? ⟨gb677, 1, none⟩ = some (.int .i64 t666) ∧ w'.cell? ⟨gb677, 2, none⟩ = some (.int .i64 t667) ∧ w'.cell? ⟨gb677, 3, none⟩ = some (.int .i64 t668) ∧ w'.cell? ⟨gb677, 4, none⟩ = some (.int .i64 t669) ∧ w'.cell? ⟨gb677, 5, none⟩ = some (.slice Ao98 t670.length co98) ∧ w'.cell? ⟨gb677, 6, none⟩ = some (.slice Ao99 t673.length co99) ∧ w'.cell? ⟨gb690, 0, none⟩ = some (.int .i64 t678) ∧ w'.cell? ⟨gb690, 1, none⟩ = some (.int .i64 t679) ∧ w'.cell? ⟨gb690, 2, none⟩ = some (.int .i64 t680) ∧ w'.cell? ⟨gb690, 3, none⟩ = some (.int .i64 t681) ∧ w'.cell? ⟨gb690, 4, none⟩ = some (.int .i64 t682) ∧ w'.cell? ⟨gb690, 5, none⟩ = some (.slice Ao112 t683.length co112) ∧ w'.cell? ⟨gb690, 6, none⟩ = some (.slice Ao113 t686.length co113) ∧ w'.cell? ⟨gb587, 0, none⟩ = some (.int .i64 t589) ∧ w'.cell? ⟨gb587, 1, none⟩ = some (.int .i64 t590) ∧ w'.cell? ⟨gb587, 2, none⟩ = some (.int .i64 t591) ∧ w'.cell? ⟨gb587, 3, none⟩ = some (.int .i64 t592) ∧ w'.cell? ⟨gb587, 4, none⟩ = some (.int .i64 t593) ∧ w'.cell? ⟨gb587, 5, none⟩ = some (.slice Ao12 t594.length co12) ∧ w'.cell? ⟨gb587, 6, none⟩ = some (.slice Ao13 t597.length co13)) ∧ (Kd.R (Kd.int .u8) 84 w' w.heap.size (fun k_ => (w.heap.size ≤ k_) ∧ some k_ ≠ (v610 : Value).ownBlock) v606 t605) ∧ (Kd.R (Kd.int .u8) 5 w' w.heap.size (fun k_ => (w.heap.size ≤ k_) ∧ some k_ ≠ (v606 : Value).ownBlock) v610 t609) ∧ (Kd.R (Kd.int .i64) 3 w' w.heap.size (fun k_ => (w.heap.size ≤ k_) ∧ nB k_ Ao54 t621 co54 ∧ nB k_ Ao62 t631 co62 ∧ nB k_ Ao63 t634 co63 ∧ nB k_ Ao73 t644 co73 ∧ nB k_ Ao74 t647 co74 ∧ nB k_ Ao85 t657 co85 ∧ nB k_ Ao86 t660 co86 ∧ nB k_ Ao98 t670 co98 ∧ nB k_ Ao99 t673 co99 ∧ nB k_ Ao112 t683 co112 ∧ nB k_ Ao113 t686 co113 ∧ nB k_ Ao12 t594 co12 ∧ nB k_ Ao13 t597 co13) (.slice Ao53 t618.length co53) t618) ∧ (Kd.R (Kd.int .i64) 3 w' w.heap.size (fun k_ => (w.heap.size ≤ k_) ∧ nB k_ Ao53 t618 co53 ∧ nB k_ Ao62 t631 co62 ∧ nB k_ Ao63 t634 co63 ∧ nB k_ Ao73 t644 co73 ∧ nB k_ Ao74 t647 co74 ∧ nB k_ Ao85 t657 co85 ∧ nB k_ Ao86 t660 co86 ∧ nB k_ Ao98 t670 co98 ∧ nB k_ Ao99 t673 co99 ∧ nB k_ Ao112 t683 co112 ∧ nB k_ Ao113 t686 co113 ∧ nB k_ Ao12 t594 co12 ∧ nB k_ Ao13 t597 co13) (.slice Ao54 t621.length co54) t621) ∧ (Kd.R (Kd.int .i64) 3 w' w.heap.size (fun k_ => (w.heap.size ≤ k_) ∧ nB k_ Ao53 t618 co53 ∧ nB k_ Ao54 t621 co54 ∧ nB k_ Ao63 t634 co63 ∧ nB k_ Ao73 t644 co73 ∧ nB k_ Ao74 t647 co74 ∧ nB k_ Ao85 t657 co85 ∧ nB k_ Ao86 t660 co86 ∧ nB k_ Ao98 t670 co98 ∧ nB k_ Ao99 t673 co99 ∧ nB k_ Ao112 t683 co112 ∧ nB k_ Ao113 t686 co113 ∧ nB k_ Ao12 t594 co12 ∧ nB k_ Ao13 t597 co13) (.slice Ao62 t631.length co62) t631) ∧ (Kd.R (Kd.int .i64) 3 w' w.heap.size (fun k_ => (w.heap.size ≤ k_) ∧ nB k_ Ao53 t618 co53 ∧ nB k_ Ao54 t621 co54 ∧ nB k_ Ao62 t631 co62 ∧ nB k_ Ao73 t644 co73 ∧ nB k_ Ao74 t647 co74 ∧ nB k_ Ao85 t657 co85 ∧ nB k_ Ao86 t660 co86 ∧ nB k_ Ao98 t670 co98 ∧ nB k_ Ao99 t673 co99 ∧ nB k_ Ao112 t683 co112 ∧ nB k_ Ao113 t686 co113 ∧ nB k_ Ao12 t594 co12 ∧ nB k_ Ao13 t597 co13) (.slice Ao63 t634.length co63) t634) ∧ (Kd.R (Kd.int .i64) 3 w' w.heap.size (fun k_ => (w.heap.size ≤ k_) ∧ nB k_ Ao53 t618 co53 ∧ nB k_ Ao54 t621 co54 ∧ nB k_ Ao62 t631 co62 ∧ nB k_ Ao63 t634 co63 ∧ nB k_ Ao74 t647 co74 ∧ nB k_ Ao85 t657 co85 ∧ nB k_ Ao86 t660 co86 ∧ nB k_ Ao98 t670 co98 ∧ nB k_ Ao99 t673 co99 ∧ nB k_ Ao112 t683 co112 ∧ nB k_ Ao113 t686 co113 ∧ nB k_ Ao12 t594 co12 ∧ nB k_ Ao13 t597 co13) (.slice Ao73 t644.length co73) t644) ∧ (Kd.R (Kd.int .i64) 3 w' w.heap.size (fun k_ => (w.heap.size ≤ k_) ∧ nB k_ Ao53 t618 co53 ∧ nB k_ Ao54 t621 co54 ∧ nB k_ Ao62 t631 co62 ∧ nB k_ Ao63 t634 co63 ∧ nB k_ Ao73 t644 co73 ∧ nB k_ Ao85 t657 co85 ∧ nB k_ Ao86 t660 co86 ∧ nB k_ Ao98 t670 co98 ∧ nB k_ Ao99 t673 co99 ∧ nB k_ Ao112 t683 co112 ∧ nB k_ Ao113 t686 co113 ∧ nB k_ Ao12 t594 co12 ∧ nB k_ Ao13 t597 co13) (.slice Ao74 t647.length co74) t647) ∧ (Kd.R (Kd.int .i64) 3 w' w.heap.size (fun k_ => (w.heap.size ≤ k_) ∧ nB k_ Ao53 t618 co53 ∧ nB k_ Ao54 t621 co54 ∧ nB k_ Ao62 t631 co62 ∧ nB k_ Ao63 t634 co63 ∧ nB k_ Ao73 t644 co73 ∧ nB k_ Ao74 t647 co74 ∧ nB k_ Ao86 t660 co86 ∧ nB k_ Ao98 t670 co98 ∧ nB k_ Ao99 t673 co99 ∧ nB k_ Ao112 t683 co112 ∧ nB k_ Ao113 t686 co113 ∧ nB k_ Ao12 t594 co12 ∧ nB k_ Ao13 t597 co13) (.slice Ao85 t657.length co85) t657) ∧ (Kd.R (Kd.int .i64) 3 w' w.heap.size (fun k_ => (w.heap.size ≤ k_) ∧ nB k_ Ao53 t618 co53 ∧ nB k_ Ao54 t621 co54 ∧ nB k_ Ao62 t631 co62 ∧ nB k_ Ao63 t634 co63 ∧ nB k_ Ao73 t644 co73 ∧ nB k_ Ao74 t647 co74 ∧ nB k_ Ao85 t657 co85 ∧ nB k_ Ao98 t670 co98 ∧ nB k_ Ao99 t673 co99 ∧ nB k_ Ao112 t683 co112 ∧ nB k_ Ao113 t686 co113 ∧ nB k_ Ao12 t594 co12 ∧ nB k_ Ao13 t597 co13) (.slice Ao86 t660.length co86) t660) ∧ (Kd.R (Kd.int .i64) 3 w' w.heap.size (fun k_ => (w.heap.size ≤ k_) ∧ nB k_ Ao53 t618 co53 ∧ nB k_ Ao54 t621 co54 ∧ nB k_ Ao62 t631 co62 ∧ nB k_ Ao63 t634 co63 ∧ nB k_ Ao73 t644 co73 ∧ nB k_ Ao74 t647 co74 ∧ nB k_ Ao85 t657 co85 ∧ nB k_ Ao86 t660 co86 ∧ nB k_ Ao99 t673 co99 ∧ nB k_ Ao112 t683 co112 ∧ nB k_ Ao113 t686 co113 ∧ nB k_ Ao12 t594 co12 ∧ nB k_ Ao13 t597 co13) (.slice Ao98 t670.length co98) t670) ∧ (Kd.R (Kd.int .i64) 3 w' w.heap.size (fun k_ => (w.heap.size ≤ k_) ∧ nB k_ Ao53 t618 co53 ∧ nB k_ Ao54 t621 co54 ∧ nB k_ Ao62 t631 co62 ∧ nB k_ Ao63 t634 co63 ∧ nB k_ Ao73 t644 co73 ∧ nB k_ Ao74 t647 co74 ∧ nB k_ Ao85 t657 co85 ∧ nB k_ Ao86 t660 co86 ∧ nB k_ Ao98 t670 co98 ∧ nB k_ Ao112 t683 co112 ∧ nB k_ Ao113 t686 co113 ∧ nB k_ Ao12 t594 co12 ∧ nB k_ Ao13 t597 co13) (.slice Ao99 t673.length co99) t673) ∧ (Kd.R (Kd.int .i64) 3 w' w.heap.size (fun k_ => (w.heap.size ≤ k_) ∧ nB k_ Ao53 t618 co53 ∧ nB k_ Ao54 t621 co54 ∧ nB k_ Ao62 t631 co62 ∧ nB k_ Ao63 t634 co63 ∧ nB k_ Ao73 t644 co73 ∧ nB k_ Ao74 t647 co74 ∧ nB k_ Ao85 t657 co85 ∧ nB k_ Ao86 t660 co86 ∧ nB k_ Ao98 t670 co98 ∧ nB k_ Ao99 t673 co99 ∧ nB k_ Ao113 t686 co113 ∧ nB k_ Ao12 t594 co12 ∧ nB k_ Ao13 t597 co13) (.slice Ao112 t683.length co112) t683) ∧ (Kd.R (Kd.int .i64) 3 w' w.heap.size (fun k_ => (w.heap.size ≤ k_) ∧ nB k_ Ao53 t618 co53 ∧ nB k_ Ao54 t621 co54 ∧ nB k_ Ao62 t631 co62 ∧ nB k_ Ao63 t634 co63 ∧ nB k_ Ao73 t644 co73 ∧ nB k_ Ao74 t647 co74 ∧ nB k_ Ao85 t657 co85 ∧ nB k_ Ao86 t660 co86 ∧ nB k_ Ao98 t670 co98 ∧ nB k_ Ao99 t673 co99 ∧ nB k_ Ao112 t683 co112 ∧ nB k_ Ao12 t594 co12 ∧ nB k_ Ao13 t597 co13) (.slice Ao113 t686.length co113) t686) ∧ (Kd.V (Kd.int .u8) 5 w' w.heap.size (fun k_ => (P1_ k_ ∨ w.heap.size ≤ k_) ∧ some k_ ≠ (v606 : Value).ownBlock ∧ some k_ ≠ (v610 : Value).ownBlock ∧ nB k_ Ao53 t618 co53 ∧ nB k_ Ao54 t621 co54 ∧ nB k_ Ao62 t631 co62 ∧ nB k_ Ao63 t634 co63 ∧ nB k_ Ao73 t644 co73 ∧ nB k_ Ao74 t647 co74 ∧ nB k_ Ao85 t657 co85 ∧ nB k_ Ao86 t660 co86 ∧ nB k_ Ao98 t670 co98 ∧ nB k_ Ao99 t673 co99 ∧ nB k_ Ao112 t683 co112 ∧ nB k_ Ao113 t686 co113 ∧ nB k_ Ao12 t594 co12 ∧ nB k_ Ao13 t597 co13 ∧ k_ ≠ gb587 ∧ k_ ≠ gb588 ∧ k_ ≠ gb625 ∧ k_ ≠ gb638 ∧ k_ ≠ gb651 ∧ k_ ≠ gb664 ∧ k_ ≠ gb677 ∧ k_ ≠ gb690) (.slice Ao47 x1_4.length co47) x1_4) ∧ (Kd.R (Kd.int .i64) 3 w' w.heap.size (fun k_ => (w.heap.size ≤ k_) ∧ nB k_ Ao53 t618 co53 ∧ nB k_ Ao54 t621 co54 ∧ nB k_ Ao62 t631 co62 ∧ nB k_ Ao63 t634 co63 ∧ nB k_ Ao73 t644 co73 ∧ nB k_ Ao74 t647 co74 ∧ nB k_ Ao85 t657 co85 ∧ nB k_ Ao86 t660 co86 ∧ nB k_ Ao98 t670 co98 ∧ nB k_ Ao99 t673 co99 ∧ nB k_ Ao112 t683 co112 ∧ nB k_ Ao113 t686 co113 ∧ nB k_ Ao13 t597 co13) (.slice Ao12 t594.length co12) t594) ∧ (Kd.R (Kd.int .i64) 3 w' w.heap.size (fun k_ => (w.heap.size ≤ k_) ∧ nB k_ Ao53 t618 co53 ∧ nB k_ Ao54 t621 co54 ∧ nB k_ Ao62 t631 co62 ∧ nB k_ Ao63 t634 co63 ∧ nB k_ Ao73 t644 co73 ∧ nB k_ Ao74 t647 co74 ∧ nB k_ Ao85 t657 co85 ∧ nB k_ Ao86 t660 co86 ∧ nB k_ Ao98 t670 co98 ∧ nB k_ Ao99 t673 co99 ∧ nB k_ Ao112 t683 co112 ∧ nB k_ Ao113 t686 co113 ∧ nB k_ Ao12 t594 co12) (.slice Ao13 t597.length co13) t597) ∧ (w'.heap[gb587]? = some (.cells #[.int .i64 t589, .int .i64 t590, .int .i64 t591, .int .i64 t592, .int .i64 t593, .slice Ao12 t594.length co12, .slice Ao13 t597.length co13] 42 (0, 0))) ∧ (w'.heap[gb588]? = some (.cells #[.int .i64 a2_0, .int .i64 a2_1] 51 (0, 0))) ∧ (w'.heap[gb625]? = some (.cells #[.int .i64 t613, .int .i64 t614, .int .i64 t615, .int .i64 t616, .int .i64 t617, .slice Ao53 t618.length co53, .slice Ao54 t621.length co54] 42 (0, 0))) ∧ (w'.heap[gb638]? = some (.cells #[.int .i64 t626, .int .i64 t627, .int .i64 t628, .int .i64 t629, .int .i64 t630, .slice Ao62 t631.length co62, .slice Ao63 t634.length co63] 42 (0, 0))) ∧ (w'.heap[gb651]? = some (.cells #[.int .i64 t639, .int .i64 t640, .int .i64 t641, .int .i64 t642, .int .i64 t643, .slice Ao73 t644.length co73, .slice Ao74 t647.length co74] 42 (0, 0))) ∧ (w'.heap[gb664]? = some (.cells #[.int .i64 t652, .int .i64 t653, .int .i64 t654, .int .i64 t655, .int .i64 t656, .slice Ao85 t657.length co85, .slice Ao86 t660.length co86] 42 (0, 0))) ∧ (w'.heap[gb677]? = some (.cells #[.int .i64 t665, .int .i64 t666, .int .i64 t667, .int .i64 t668, .int .i64 t669, .slice Ao98 t670.length co98, .slice Ao99 t673.length co99] 42 (0, 0))) ∧ (w'.heap[gb690]? = some (.cells #[.int .i64 t678, .int .i64 t679, .int .i64 t680, .int .i64 t681, .int .i64 t682, .slice Ao112 t683.length co112, .slice Ao113 t686.length co113] 42 (0, 0))) ∧ (Below w.heap.size w w')) ?_ ?_
   rotate_left
   ·intro hCont
    refine two_ (i := 3) (j := 5) (Ni := some 79) (Nj := some 81) #[true, true, true, true, true, false, false, false, false, false, false, false, false, false, false, false, false, false, false, false, false, false, false, false, false, false, false, false, false, false, false, false, false, false, false, false, false, false, false, false, false, false, false, false, false, false, false, false, false, false, false] #[true, true, true, false, true, true, false, false, false, false, false, false, false, false, false, false, false, false, false, false, false, false, false, false, false, false, false, false, false, false, false, false, false, false, false, false, false, false, false, false, false, false, false, false, false, false, false, false, false, false, false] rfl rfl rfl rfl (two_of HT_.out (by kernel_rfl)) (by decide) (by decide) (fun K hK => ?_) (fun K hK => ?_)
    ·skip
     have hcv117 := own_string (P := Try.prog) Try.underlying35 Try.underlying5 Try.underlying9 (Kd.own_of_R HO607.out)
     refine value_ (w1 := ?_) (v := ?_) (by rfl) rfl ?_ ?_
     rotate_left 2
     ·go_simp
      constructor
      ·rfl
      ·rfl
     clear hcv117
     refine hK.out _ _ ⟨(blk_cell BK625.out 0).trans rfl, (blk_cell BK625.out 1).trans rfl, (blk_cell BK625.out 2).trans rfl, (blk_cell BK625.out 3).trans rfl, (blk_cell BK625.out 4).trans rfl, (blk_cell BK625.out 5).trans rfl, (blk_cell BK625.out 6).trans rfl, (blk_cell BK638.out 0).trans rfl, (blk_cell BK638.out 1).trans rfl, (blk_cell BK638.out 2).trans rfl, (blk_cell BK638.out 3).trans rfl, (blk_cell BK638.out 4).trans rfl, (blk_cell BK638.out 5).trans rfl, (blk_cell BK638.out 6).trans rfl, (blk_cell BK651.out 0).trans rfl, (blk_cell BK651.out 1).trans rfl, (blk_cell BK651.out 2).trans rfl, (blk_cell BK651.out 3).trans rfl, (blk_cell BK651.out 4).trans rfl, (blk_cell BK651.out 5).trans rfl, (blk_cell BK651.out 6).trans rfl, (blk_cell BK664.out 0).trans rfl, (blk_cell BK664.out 1).trans rfl, (blk_cell BK664.out 2).trans rfl, (blk_cell BK664.out 3).trans rfl, (blk_cell BK664.out 4).trans rfl, (blk_cell BK664.out 5).trans rfl, (blk_cell BK664.out 6).trans rfl, (blk_cell BK677.out 0).trans rfl, (blk_cell BK677.out 1).trans rfl, (blk_cell BK677.out 2).trans rfl, (blk_cell BK677.out 3).trans rfl, (blk_cell BK677.out 4).trans rfl, (blk_cell BK677.out 5).trans rfl, (blk_cell BK677.out 6).trans rfl, (blk_cell BK690.out 0).trans rfl, (blk_cell BK690.out 1).trans rfl, (blk_cell BK690.out 2).trans rfl, (blk_cell BK690.out 3).trans rfl, (blk_cell BK690.out 4).trans rfl, (blk_cell BK690.out 5).trans rfl, (blk_cell BK690.out 6).trans rfl, (blk_cell BK587.out 0).trans rfl, (blk_cell BK587.out 1).trans rfl, (blk_cell BK587.out 2).trans rfl, (blk_cell BK587.out 3).trans rfl, (blk_cell BK587.out 4).trans rfl, (blk_cell BK587.out 5).trans rfl, (blk_cell BK587.out 6).trans rfl⟩ (fun hHeld => ?_)
     clear hK K
     refine norm_ (a' := ?_) ?_ ?_
     rotate_left
     ·show Act.put _ (some 79) _ = _
      simp only [Act.put, List.setIfInBounds_toArray, List.set_cons_zero, List.set_cons_succ, i64_w, i32_w]
      rfl
     refine one_ (i := 5) (N := some 81) (bA 51 63) rfl rfl (one_of HT_.out (by kernel_rfl)) (by decide) (fun K hK => ?_)
     have hcv118 := own_string (P := Try.prog) Try.underlying35 Try.underlying5 Try.underlying9 (Kd.own_of_R HO611.out)
     refine value_ (w1 := ?_) (v := ?_) (by rfl) rfl ?_ ?_
     rotate_left 2
     ·go_simp
      constructor
      ·rfl
      ·rfl
     clear hcv118
     refine hK.out _ _ ⟨(blk_cell BK625.out 0).trans rfl, (blk_cell BK625.out 1).trans rfl, (blk_cell BK625.out 2).trans rfl, (blk_cell BK625.out 3).trans rfl, (blk_cell BK625.out 4).trans rfl, (blk_cell BK625.out 5).trans rfl, (blk_cell BK625.out 6).trans rfl, (blk_cell BK638.out 0).trans rfl, (blk_cell BK638.out 1).trans rfl, (blk_cell BK638.out 2).trans rfl, (blk_cell BK638.out 3).trans rfl, (blk_cell BK638.out 4).trans rfl, (blk_cell BK638.out 5).trans rfl, (blk_cell BK638.out 6).trans rfl, (blk_cell BK651.out 0).trans rfl, (blk_cell BK651.out 1).trans rfl, (blk_cell BK651.out 2).trans rfl, (blk_cell BK651.out 3).trans rfl, (blk_cell BK651.out 4).trans rfl, (blk_cell BK651.out 5).trans rfl, (blk_cell BK651.out 6).trans rfl, (blk_cell BK664.out 0).trans rfl, (blk_cell BK664.out 1).trans rfl, (blk_cell BK664.out 2).trans rfl, (blk_cell BK664.out 3).trans rfl, (blk_cell BK664.out 4).trans rfl, (blk_cell BK664.out 5).trans rfl, (blk_cell BK664.out 6).trans rfl, (blk_cell BK677.out 0).trans rfl, (blk_cell BK677.out 1).trans rfl, (blk_cell BK677.out 2).trans rfl, (blk_cell BK677.out 3).trans rfl, (blk_cell BK677.out 4).trans rfl, (blk_cell BK677.out 5).trans rfl, (blk_cell BK677.out 6).trans rfl, (blk_cell BK690.out 0).trans rfl, (blk_cell BK690.out 1).trans rfl, (blk_cell BK690.out 2).trans rfl, (blk_cell BK690.out 3).trans rfl, (blk_cell BK690.out 4).trans rfl, (blk_cell BK690.out 5).trans rfl, (blk_cell BK690.out 6).trans rfl, (blk_cell BK587.out 0).trans rfl, (blk_cell BK587.out 1).trans rfl, (blk_cell BK587.out 2).trans rfl, (blk_cell BK587.out 3).trans rfl, (blk_cell BK587.out 4).trans rfl, (blk_cell BK587.out 5).trans rfl, (blk_cell BK587.out 6).trans rfl⟩ (fun hHeld => ?_)
     clear hK K
     refine norm_ (a' := ?_) ?_ ?_
     rotate_left
     ·show Act.put _ (some 81) _ = _
      simp only [Act.put, List.setIfInBounds_toArray, List.set_cons_zero, List.set_cons_succ, i64_w, i32_w]
      rfl
     exact norm_ (by simp only [putAll, Act.put, List.setIfInBounds_toArray, List.set_cons_zero, List.set_cons_succ]) (hCont () _ ⟨hHeld, (rk HO607), (rk HO611), (Kd.R_mono (rk HO620) (fun _ hk => by (try simp only [nB] at hk ⊢); simp [hk])), (Kd.R_mono (rk HO623) (fun _ hk => by (try simp only [nB] at hk ⊢); simp [hk])), (Kd.R_mono (rk HO633) (fun _ hk => by (try simp only [nB] at hk ⊢); simp [hk])), (Kd.R_mono (rk HO636) (fun _ hk => by (try simp only [nB] at hk ⊢); simp [hk])), (Kd.R_mono (rk HO646) (fun _ hk => by (try simp only [nB] at hk ⊢); simp [hk])), (Kd.R_mono (rk HO649) (fun _ hk => by (try simp only [nB] at hk ⊢); simp [hk])), (Kd.R_mono (rk HO659) (fun _ hk => by (try simp only [nB] at hk ⊢); simp [hk])), (Kd.R_mono (rk HO662) (fun _ hk => by (try simp only [nB] at hk ⊢); simp [hk])), (Kd.R_mono (rk HO672) (fun _ hk => by (try simp only [nB] at hk ⊢); simp [hk])), (Kd.R_mono (rk HO675) (fun _ hk => by (try simp only [nB] at hk ⊢); simp [hk])), (Kd.R_mono (rk HO685) (fun _ hk => by (try simp only [nB] at hk ⊢); simp [hk])), (Kd.R_mono (rk HO688) (fun _ hk => by (try simp only [nB] at hk ⊢); simp [hk])), (Kd.V_mono (vk HO_1) (fun _ hk => by (try simp only [nB] at hk ⊢); simp [hk])), (Kd.R_mono (rk HO_588005) (fun _ hk => by (try simp only [nB] at hk ⊢); simp [hk])), (Kd.R_mono (rk HO_588006) (fun _ hk => by (try simp only [nB] at hk ⊢); simp [hk])), (bk BK587), (bk BK588), (bk BK625), (bk BK638), (bk BK651), (bk BK664), (bk BK677), (bk BK690), (bs HB (by simp [ag, GE587.out, GE588.out, GE625.out, GE638.out, GE651.out, GE664.out, GE677.out, GE690.out]))⟩)
    ·skip
     have hcv117 := own_string (P := Try.prog) Try.underlying35 Try.underlying5 Try.underlying9 (Kd.own_of_R HO611.out)
     refine value_ (w1 := ?_) (v := ?_) (by rfl) rfl ?_ ?_
     rotate_left 2
     ·go_simp
      constructor
      ·rfl
      ·rfl
     clear hcv117
     refine hK.out _ _ ⟨(blk_cell BK625.out 0).trans rfl, (blk_cell BK625.out 1).trans rfl, (blk_cell BK625.out 2).trans rfl, (blk_cell BK625.out 3).trans rfl, (blk_cell BK625.out 4).trans rfl, (blk_cell BK625.out 5).trans rfl, (blk_cell BK625.out 6).trans rfl, (blk_cell BK638.out 0).trans rfl, (blk_cell BK638.out 1).trans rfl, (blk_cell BK638.out 2).trans rfl, (blk_cell BK638.out 3).trans rfl, (blk_cell BK638.out 4).trans rfl, (blk_cell BK638.out 5).trans rfl, (blk_cell BK638.out 6).trans rfl, (blk_cell BK651.out 0).trans rfl, (blk_cell BK651.out 1).trans rfl, (blk_cell BK651.out 2).trans rfl, (blk_cell BK651.out 3).trans rfl, (blk_cell BK651.out 4).trans rfl, (blk_cell BK651.out 5).trans rfl, (blk_cell BK651.out 6).trans rfl, (blk_cell BK664.out 0).trans rfl, (blk_cell BK664.out 1).trans rfl, (blk_cell BK664.out 2).trans rfl, (blk_cell BK664.out 3).trans rfl, (blk_cell BK664.out 4).trans rfl, (blk_cell BK664.out 5).trans rfl, (blk_cell BK664.out 6).trans rfl, (blk_cell BK677.out 0).trans rfl, (blk_cell BK677.out 1).trans rfl, (blk_cell BK677.out 2).trans rfl, (blk_cell BK677.out 3).trans rfl, (blk_cell BK677.out 4).trans rfl, (blk_cell BK677.out 5).trans rfl, (blk_cell BK677.out 6).trans rfl, (blk_cell BK690.out 0).trans rfl, (blk_cell BK690.out 1).trans rfl, (blk_cell BK690.out 2).trans rfl, (blk_cell BK690.out 3).trans rfl, (blk_cell BK690.out 4).trans rfl, (blk_cell BK690.out 5).trans rfl, (blk_cell BK690.out 6).trans rfl, (blk_cell BK587.out 0).trans rfl, (blk_cell BK587.out 1).trans rfl, (blk_cell BK587.out 2).trans rfl, (blk_cell BK587.out 3).trans rfl, (blk_cell BK587.out 4).trans rfl, (blk_cell BK587.out 5).trans rfl, (blk_cell BK587.out 6).trans rfl⟩ (fun hHeld => ?_)
     clear hK K
     refine norm_ (a' := ?_) ?_ ?_
     rotate_left
     ·show Act.put _ (some 81) _ = _
      simp only [Act.put, List.setIfInBounds_toArray, List.set_cons_zero, List.set_cons_succ, i64_w, i32_w]
      rfl
     refine one_ (i := 3) (N := some 79) (bA 51 63) rfl rfl (one_of HT_.out (by kernel_rfl)) (by decide) (fun K hK => ?_)
     have hcv118 := own_string (P := Try.prog) Try.underlying35 Try.underlying5 Try.underlying9 (Kd.own_of_R HO607.out)
     refine value_ (w1 := ?_) (v := ?_) (by rfl) rfl ?_ ?_
     rotate_left 2
     ·go_simp
      constructor
      ·rfl
      ·rfl
     clear hcv118
     refine hK.out _ _ ⟨(blk_cell BK625.out 0).trans rfl, (blk_cell BK625.out 1).trans rfl, (blk_cell BK625.out 2).trans rfl, (blk_cell BK625.out 3).trans rfl, (blk_cell BK625.out 4).trans rfl, (blk_cell BK625.out 5).trans rfl, (blk_cell BK625.out 6).trans rfl, (blk_cell BK638.out 0).trans rfl, (blk_cell BK638.out 1).trans rfl, (blk_cell BK638.out 2).trans rfl, (blk_cell BK638.out 3).trans rfl, (blk_cell BK638.out 4).trans rfl, (blk_cell BK638.out 5).trans rfl, (blk_cell BK638.out 6).trans rfl, (blk_cell BK651.out 0).trans rfl, (blk_cell BK651.out 1).trans rfl, (blk_cell BK651.out 2).trans rfl, (blk_cell BK651.out 3).trans rfl, (blk_cell BK651.out 4).trans rfl, (blk_cell BK651.out 5).trans rfl, (blk_cell BK651.out 6).trans rfl, (blk_cell BK664.out 0).trans rfl, (blk_cell BK664.out 1).trans rfl, (blk_cell BK664.out 2).trans rfl, (blk_cell BK664.out 3).trans rfl, (blk_cell BK664.out 4).trans rfl, (blk_cell BK664.out 5).trans rfl, (blk_cell BK664.out 6).trans rfl, (blk_cell BK677.out 0).trans rfl, (blk_cell BK677.out 1).trans rfl, (blk_cell BK677.out 2).trans rfl, (blk_cell BK677.out 3).trans rfl, (blk_cell BK677.out 4).trans rfl, (blk_cell BK677.out 5).trans rfl, (blk_cell BK677.out 6).trans rfl, (blk_cell BK690.out 0).trans rfl, (blk_cell BK690.out 1).trans rfl, (blk_cell BK690.out 2).trans rfl, (blk_cell BK690.out 3).trans rfl, (blk_cell BK690.out 4).trans rfl, (blk_cell BK690.out 5).trans rfl, (blk_cell BK690.out 6).trans rfl, (blk_cell BK587.out 0).trans rfl, (blk_cell BK587.out 1).trans rfl, (blk_cell BK587.out 2).trans rfl, (blk_cell BK587.out 3).trans rfl, (blk_cell BK587.out 4).trans rfl, (blk_cell BK587.out 5).trans rfl, (blk_cell BK587.out 6).trans rfl⟩ (fun hHeld => ?_)
     clear hK K
     refine norm_ (a' := ?_) ?_ ?_
     rotate_left
     ·show Act.put _ (some 79) _ = _
      simp only [Act.put, List.setIfInBounds_toArray, List.set_cons_zero, List.set_cons_succ, i64_w, i32_w]
      rfl
     exact norm_ (by simp only [putAll, Act.put, List.setIfInBounds_toArray, List.set_cons_zero, List.set_cons_succ]) (hCont () _ ⟨hHeld, (rk HO607), (rk HO611), (Kd.R_mono (rk HO620) (fun _ hk => by (try simp only [nB] at hk ⊢); simp [hk])), (Kd.R_mono (rk HO623) (fun _ hk => by (try simp only [nB] at hk ⊢); simp [hk])), (Kd.R_mono (rk HO633) (fun _ hk => by (try simp only [nB] at hk ⊢); simp [hk])), (Kd.R_mono (rk HO636) (fun _ hk => by (try simp only [nB] at hk ⊢); simp [hk])), (Kd.R_mono (rk HO646) (fun _ hk => by (try simp only [nB] at hk ⊢); simp [hk])), (Kd.R_mono (rk HO649) (fun _ hk => by (try simp only [nB] at hk ⊢); simp [hk])), (Kd.R_mono (rk HO659) (fun _ hk => by (try simp only [nB] at hk ⊢); simp [hk])), (Kd.R_mono (rk HO662) (fun _ hk => by (try simp only [nB] at hk ⊢); simp [hk])), (Kd.R_mono (rk HO672) (fun _ hk => by (try simp only [nB] at hk ⊢); simp [hk])), (Kd.R_mono (rk HO675) (fun _ hk => by (try simp only [nB] at hk ⊢); simp [hk])), (Kd.R_mono (rk HO685) (fun _ hk => by (try simp only [nB] at hk ⊢); simp [hk])), (Kd.R_mono (rk HO688) (fun _ hk => by (try simp only [nB] at hk ⊢); simp [hk])), (Kd.V_mono (vk HO_1) (fun _ hk => by (try simp only [nB] at hk ⊢); simp [hk])), (Kd.R_mono (rk HO_588005) (fun _ hk => by (try simp only [nB] at hk ⊢); simp [hk])), (Kd.R_mono (rk HO_588006) (fun _ hk => by (try simp only [nB] at hk ⊢); simp [hk])), (bk BK587), (bk BK588), (bk BK625), (bk BK638), (bk BK651), (bk BK664), (bk BK677), (bk BK690), (bs HB (by simp [ag, GE587.out, GE588.out, GE625.out, GE638.out, GE651.out, GE664.out, GE677.out, GE690.out]))⟩)
   rintro _ w119 ⟨hS_, h0_, h1_, h2_, h3_, h4_, h5_, h6_, h7_, h8_, h9_, h10_, h11_, h12_, h13_, h14_, h15_, h16_, h17_, h18_, h19_, h20_, h21_, h22_, h23_, h24_, h25_⟩
   have n0_ : Aside0 (Kd.R (Kd.int .u8) 84 w119 w.heap.size (fun k_ => (w.heap.size ≤ k_) ∧ some k_ ≠ (v610 : Value).ownBlock) v606 t605) := ⟨h0_⟩
   have n1_ : Aside0 (Kd.R (Kd.int .u8) 5 w119 w.heap.size (fun k_ => (w.heap.size ≤ k_) ∧ some k_ ≠ (v606 : Value).ownBlock) v610 t609) := ⟨h1_⟩
   have n2_ : Aside0 (Kd.R (Kd.int .i64) 3 w119 w.heap.size (fun k_ => (w.heap.size ≤ k_) ∧ nB k_ Ao54 t621 co54 ∧ nB k_ Ao62 t631 co62 ∧ nB k_ Ao63 t634 co63 ∧ nB k_ Ao73 t644 co73 ∧ nB k_ Ao74 t647 co74 ∧ nB k_ Ao85 t657 co85 ∧ nB k_ Ao86 t660 co86 ∧ nB k_ Ao98 t670 co98 ∧ nB k_ Ao99 t673 co99 ∧ nB k_ Ao112 t683 co112 ∧ nB k_ Ao113 t686 co113 ∧ nB k_ Ao12 t594 co12 ∧ nB k_ Ao13 t597 co13) (.slice Ao53 t618.length co53) t618) := ⟨h2_⟩
   have n3_ : Aside0 (Kd.R (Kd.int .i64) 3 w119 w.heap.size (fun k_ => (w.heap.size ≤ k_) ∧ nB k_ Ao53 t618 co53 ∧ nB k_ Ao62 t631 co62 ∧ nB k_ Ao63 t634 co63 ∧ nB k_ Ao73 t644 co73 ∧ nB k_ Ao74 t647 co74 ∧ nB k_ Ao85 t657 co85 ∧ nB k_ Ao86 t660 co86 ∧ nB k_ Ao98 t670 co98 ∧ nB k_ Ao99 t673 co99 ∧ nB k_ Ao112 t683 co112 ∧ nB k_ Ao113 t686 co113 ∧ nB k_ Ao12 t594 co12 ∧ nB k_ Ao13 t597 co13) (.slice Ao54 t621.length co54) t621) := ⟨h3_⟩
   have n4_ : Aside0 (Kd.R (Kd.int .i64) 3 w119 w.heap.size (fun k_ => (w.heap.size ≤ k_) ∧ nB k_ Ao53 t618 co53 ∧ nB k_ Ao54 t621 co54 ∧ nB k_ Ao63 t634 co63 ∧ nB k_ Ao73 t644 co73 ∧ nB k_ Ao74 t647 co74 ∧ nB k_ Ao85 t657 co85 ∧ nB k_ Ao86 t660 co86 ∧ nB k_ Ao98 t670 co98 ∧ nB k_ Ao99 t673 co99 ∧ nB k_ Ao112 t683 co112 ∧ nB k_ Ao113 t686 co113 ∧ nB k_ Ao12 t594 co12 ∧ nB k_ Ao13 t597 co13) (.slice Ao62 t631.length co62) t631) := ⟨h4_⟩
   have n5_ : Aside0 (Kd.R (Kd.int .i64) 3 w119 w.heap.size (fun k_ => (w.heap.size ≤ k_) ∧ nB k_ Ao53 t618 co53 ∧ nB k_ Ao54 t621 co54 ∧ nB k_ Ao62 t631 co62 ∧ nB k_ Ao73 t644 co73 ∧ nB k_ Ao74 t647 co74 ∧ nB k_ Ao85 t657 co85 ∧ nB k_ Ao86 t660 co86 ∧ nB k_ Ao98 t670 co98 ∧ nB k_ Ao99 t673 co99 ∧ nB k_ Ao112 t683 co112 ∧ nB k_ Ao113 t686 co113 ∧ nB k_ Ao12 t594 co12 ∧ nB k_ Ao13 t597 co13) (.slice Ao63 t634.length co63) t634) := ⟨h5_⟩
   have n6_ : Aside0 (Kd.R (Kd.int .i64) 3 w119 w.heap.size (fun k_ => (w.heap.size ≤ k_) ∧ nB k_ Ao53 t618 co53 ∧ nB k_ Ao54 t621 co54 ∧ nB k_ Ao62 t631 co62 ∧ nB k_ Ao63 t634 co63 ∧ nB k_ Ao74 t647 co74 ∧ nB k_ Ao85 t657 co85 ∧ nB k_ Ao86 t660 co86 ∧ nB k_ Ao98 t670 co98 ∧ nB k_ Ao99 t673 co99 ∧ nB k_ Ao112 t683 co112 ∧ nB k_ Ao113 t686 co113 ∧ nB k_ Ao12 t594 co12 ∧ nB k_ Ao13 t597 co13) (.slice Ao73 t644.length co73) t644) := ⟨h6_⟩
   have n7_ : Aside0 (Kd.R (Kd.int .i64) 3 w119 w.heap.size (fun k_ => (w.heap.size ≤ k_) ∧ nB k_ Ao53 t618 co53 ∧ nB k_ Ao54 t621 co54 ∧ nB k_ Ao62 t631 co62 ∧ nB k_ Ao63 t634 co63 ∧ nB k_ Ao73 t644 co73 ∧ nB k_ Ao85 t657 co85 ∧ nB k_ Ao86 t660 co86 ∧ nB k_ Ao98 t670 co98 ∧ nB k_ Ao99 t673 co99 ∧ nB k_ Ao112 t683 co112 ∧ nB k_ Ao113 t686 co113 ∧ nB k_ Ao12 t594 co12 ∧ nB k_ Ao13 t597 co13) (.slice Ao74 t647.length co74) t647) := ⟨h7_⟩
   have n8_ : Aside0 (Kd.R (Kd.int .i64) 3 w119 w.heap.size (fun k_ => (w.heap.size ≤ k_) ∧ nB k_ Ao53 t618 co53 ∧ nB k_ Ao54 t621 co54 ∧ nB k_ Ao62 t631 co62 ∧ nB k_ Ao63 t634 co63 ∧ nB k_ Ao73 t644 co73 ∧ nB k_ Ao74 t647 co74 ∧ nB k_ Ao86 t660 co86 ∧ nB k_ Ao98 t670 co98 ∧ nB k_ Ao99 t673 co99 ∧ nB k_ Ao112 t683 co112 ∧ nB k_ Ao113 t686 co113 ∧ nB k_ Ao12 t594 co12 ∧ nB k_ Ao13 t597 co13) (.slice Ao85 t657.length co85) t657) := ⟨h8_⟩
   have n9_ : Aside0 (Kd.R (Kd.int .i64) 3 w119 w.heap.size (fun k_ => (w.heap.size ≤ k_) ∧ nB k_ Ao53 t618 co53 ∧ nB k_ Ao54 t621 co54 ∧ nB k_ Ao62 t631 co62 ∧ nB k_ Ao63 t634 co63 ∧ nB k_ Ao73 t644 co73 ∧ nB k_ Ao74 t647 co74 ∧ nB k_ Ao85 t657 co85 ∧ nB k_ Ao98 t670 co98 ∧ nB k_ Ao99 t673 co99 ∧ nB k_ Ao112 t683 co112 ∧ nB k_ Ao113 t686 co113 ∧ nB k_ Ao12 t594 co12 ∧ nB k_ Ao13 t597 co13) (.slice Ao86 t660.length co86) t660) := ⟨h9_⟩
   have n10_ : Aside0 (Kd.R (Kd.int .i64) 3 w119 w.heap.size (fun k_ => (w.heap.size ≤ k_) ∧ nB k_ Ao53 t618 co53 ∧ nB k_ Ao54 t621 co54 ∧ nB k_ Ao62 t631 co62 ∧ nB k_ Ao63 t634 co63 ∧ nB k_ Ao73 t644 co73 ∧ nB k_ Ao74 t647 co74 ∧ nB k_ Ao85 t657 co85 ∧ nB k_ Ao86 t660 co86 ∧ nB k_ Ao99 t673 co99 ∧ nB k_ Ao112 t683 co112 ∧ nB k_ Ao113 t686 co113 ∧ nB k_ Ao12 t594 co12 ∧ nB k_ Ao13 t597 co13) (.slice Ao98 t670.length co98) t670) := ⟨h10_⟩
   have n11_ : Aside0 (Kd.R (Kd.int .i64) 3 w119 w.heap.size (fun k_ => (w.heap.size ≤ k_) ∧ nB k_ Ao53 t618 co53 ∧ nB k_ Ao54 t621 co54 ∧ nB k_ Ao62 t631 co62 ∧ nB k_ Ao63 t634 co63 ∧ nB k_ Ao73 t644 co73 ∧ nB k_ Ao74 t647 co74 ∧ nB k_ Ao85 t657 co85 ∧ nB k_ Ao86 t660 co86 ∧ nB k_ Ao98 t670 co98 ∧ nB k_ Ao112 t683 co112 ∧ nB k_ Ao113 t686 co113 ∧ nB k_ Ao12 t594 co12 ∧ nB k_ Ao13 t597 co13) (.slice Ao99 t673.length co99) t673) := ⟨h11_⟩
   have n12_ : Aside0 (Kd.R (Kd.int .i64) 3 w119 w.heap.size (fun k_ => (w.heap.size ≤ k_) ∧ nB k_ Ao53 t618 co53 ∧ nB k_ Ao54 t621 co54 ∧ nB k_ Ao62 t631 co62 ∧ nB k_ Ao63 t634 co63 ∧ nB k_ Ao73 t644 co73 ∧ nB k_ Ao74 t647 co74 ∧ nB k_ Ao85 t657 co85 ∧ nB k_ Ao86 t660 co86 ∧ nB k_ Ao98 t670 co98 ∧ nB k_ Ao99 t673 co99 ∧ nB k_ Ao113 t686 co113 ∧ nB k_ Ao12 t594 co12 ∧ nB k_ Ao13 t597 co13) (.slice Ao112 t683.length co112) t683) := ⟨h12_⟩
   have n13_ : Aside0 (Kd.R (Kd.int .i64) 3 w119 w.heap.size (fun k_ => (w.heap.size ≤ k_) ∧ nB k_ Ao53 t618 co53 ∧ nB k_ Ao54 t621 co54 ∧ nB k_ Ao62 t631 co62 ∧ nB k_ Ao63 t634 co63 ∧ nB k_ Ao73 t644 co73 ∧ nB k_ Ao74 t647 co74 ∧ nB k_ Ao85 t657 co85 ∧ nB k_ Ao86 t660 co86 ∧ nB k_ Ao98 t670 co98 ∧ nB k_ Ao99 t673 co99 ∧ nB k_ Ao112 t683 co112 ∧ nB k_ Ao12 t594 co12 ∧ nB k_ Ao13 t597 co13) (.slice Ao113 t686.length co113) t686) := ⟨h13_⟩
   have n14_ : Aside0 (Kd.V (Kd.int .u8) 5 w119 w.heap.size (fun k_ => (P1_ k_ ∨ w.heap.size ≤ k_) ∧ some k_ ≠ (v606 : Value).ownBlock ∧ some k_ ≠ (v610 : Value).ownBlock ∧ nB k_ Ao53 t618 co53 ∧ nB k_ Ao54 t621 co54 ∧ nB k_ Ao62 t631 co62 ∧ nB k_ Ao63 t634 co63 ∧ nB k_ Ao73 t644 co73 ∧ nB k_ Ao74 t647 co74 ∧ nB k_ Ao85 t657 co85 ∧ nB k_ Ao86 t660 co86 ∧ nB k_ Ao98 t670 co98 ∧ nB k_ Ao99 t673 co99 ∧ nB k_ Ao112 t683 co112 ∧ nB k_ Ao113 t686 co113 ∧ nB k_ Ao12 t594 co12 ∧ nB k_ Ao13 t597 co13 ∧ k_ ≠ gb587 ∧ k_ ≠ gb588 ∧ k_ ≠ gb625 ∧ k_ ≠ gb638 ∧ k_ ≠ gb651 ∧ k_ ≠ gb664 ∧ k_ ≠ gb677 ∧ k_ ≠ gb690) (.slice Ao47 x1_4.length co47) x1_4) := ⟨h14_⟩
   have n15_ : Aside0 (Kd.R (Kd.int .i64) 3 w119 w.heap.size (fun k_ => (w.heap.size ≤ k_) ∧ nB k_ Ao53 t618 co53 ∧ nB k_ Ao54 t621 co54 ∧ nB k_ Ao62 t631 co62 ∧ nB k_ Ao63 t634 co63 ∧ nB k_ Ao73 t644 co73 ∧ nB k_ Ao74 t647 co74 ∧ nB k_ Ao85 t657 co85 ∧ nB k_ Ao86 t660 co86 ∧ nB k_ Ao98 t670 co98 ∧ nB k_ Ao99 t673 co99 ∧ nB k_ Ao112 t683 co112 ∧ nB k_ Ao113 t686 co113 ∧ nB k_ Ao13 t597 co13) (.slice Ao12 t594.length co12) t594) := ⟨h15_⟩
   have n16_ : Aside0 (Kd.R (Kd.int .i64) 3 w119 w.heap.size (fun k_ => (w.heap.size ≤ k_) ∧ nB k_ Ao53 t618 co53 ∧ nB k_ Ao54 t621 co54 ∧ nB k_ Ao62 t631 co62 ∧ nB k_ Ao63 t634 co63 ∧ nB k_ Ao73 t644 co73 ∧ nB k_ Ao74 t647 co74 ∧ nB k_ Ao85 t657 co85 ∧ nB k_ Ao86 t660 co86 ∧ nB k_ Ao98 t670 co98 ∧ nB k_ Ao99 t673 co99 ∧ nB k_ Ao112 t683 co112 ∧ nB k_ Ao113 t686 co113 ∧ nB k_ Ao12 t594 co12) (.slice Ao13 t597.length co13) t597) := ⟨h16_⟩
   have n17_ : Aside0 (w119.heap[gb587]? = some (.cells #[.int .i64 t589, .int .i64 t590, .int .i64 t591, .int .i64 t592, .int .i64 t593, .slice Ao12 t594.length co12, .slice Ao13 t597.length co13] 42 (0, 0))) := ⟨h17_⟩
   have n18_ : Aside0 (w119.heap[gb588]? = some (.cells #[.int .i64 a2_0, .int .i64 a2_1] 51 (0, 0))) := ⟨h18_⟩
   have n19_ : Aside0 (w119.heap[gb625]? = some (.cells #[.int .i64 t613, .int .i64 t614, .int .i64 t615, .int .i64 t616, .int .i64 t617, .slice Ao53 t618.length co53, .slice Ao54 t621.length co54] 42 (0, 0))) := ⟨h19_⟩
   have n20_ : Aside0 (w119.heap[gb638]? = some (.cells #[.int .i64 t626, .int .i64 t627, .int .i64 t628, .int .i64 t629, .int .i64 t630, .slice Ao62 t631.length co62, .slice Ao63 t634.length co63] 42 (0, 0))) := ⟨h20_⟩
   have n21_ : Aside0 (w119.heap[gb651]? = some (.cells #[.int .i64 t639, .int .i64 t640, .int .i64 t641, .int .i64 t642, .int .i64 t643, .slice Ao73 t644.length co73, .slice Ao74 t647.length co74] 42 (0, 0))) := ⟨h21_⟩
   have n22_ : Aside0 (w119.heap[gb664]? = some (.cells #[.int .i64 t652, .int .i64 t653, .int .i64 t654, .int .i64 t655, .int .i64 t656, .slice Ao85 t657.length co85, .slice Ao86 t660.length co86] 42 (0, 0))) := ⟨h22_⟩
   have n23_ : Aside0 (w119.heap[gb677]? = some (.cells #[.int .i64 t665, .int .i64 t666, .int .i64 t667, .int .i64 t668, .int .i64 t669, .slice Ao98 t670.length co98, .slice Ao99 t673.length co99] 42 (0, 0))) := ⟨h23_⟩
   have n24_ : Aside0 (w119.heap[gb690]? = some (.cells #[.int .i64 t678, .int .i64 t679, .int .i64 t680, .int .i64 t681, .int .i64 t682, .slice Ao112 t683.length co112, .slice Ao113 t686.length co113] 42 (0, 0))) := ⟨h24_⟩
   have n25_ : Aside0 (Below w.heap.size w w119) := ⟨h25_⟩
   clear HO_1
   clear HO_588005
   clear HO_588006
   clear HO607
   clear HO611
   clear HO620
   clear HO623
   clear HO633
   clear HO636
   clear HO646
   clear HO649
   clear HO659
   clear HO662
   clear HO672
   clear HO675
   clear HO685
   clear HO688
   clear BK587
   clear BK588
   clear BK625
   clear BK638
   clear BK651
   clear BK664
   clear BK677
   clear BK690
   clear HB
   clear h0_ h1_ h2_ h3_ h4_ h5_ h6_ h7_ h8_ h9_ h10_ h11_ h12_ h13_ h14_ h15_ h16_ h17_ h18_ h19_ h20_ h21_ h22_ h23_ h24_ h25_
   have HO607 := n0_
   have HO611 := n1_
   have HO620 := n2_
   have HO623 := n3_
   have HO633 := n4_
   have HO636 := n5_
   have HO646 := n6_
   have HO649 := n7_
   have HO659 := n8_
   have HO662 := n9_
   have HO672 := n10_
   have HO675 := n11_
   have HO685 := n12_
   have HO688 := n13_
   have HO_1 := n14_
   have HO_588005 := n15_
   have HO_588006 := n16_
   have BK587 := n17_
   have BK588 := n18_
   have BK625 := n19_
   have BK638 := n20_
   have BK651 := n21_
   have BK664 := n22_
   have BK677 := n23_
   have BK690 := n24_
   have HB := n25_
   clear n0_ n1_ n2_ n3_ n4_ n5_ n6_ n7_ n8_ n9_ n10_ n11_ n12_ n13_ n14_ n15_ n16_ n17_ n18_ n19_ n20_ n21_ n22_ n23_ n24_ n25_
   have hHeld : w119.cell? ⟨gb625, 0, none⟩ = some (.int .i64 t613) ∧ w119.cell? ⟨gb625, 1, none⟩ = some (.int .i64 t614) ∧ w119.cell? ⟨gb625, 2, none⟩ = some (.int .i64 t615) ∧ w119.cell? ⟨gb625, 3, none⟩ = some (.int .i64 t616) ∧ w119.cell? ⟨gb625, 4, none⟩ = some (.int .i64 t617) ∧ w119.cell? ⟨gb625, 5, none⟩ = some (.slice Ao53 t618.length co53) ∧ w119.cell? ⟨gb625, 6, none⟩ = some (.slice Ao54 t621.length co54) ∧ w119.cell? ⟨gb638, 0, none⟩ = some (.int .i64 t626) ∧ w119.cell? ⟨gb638, 1, none⟩ = some (.int .i64 t627) ∧ w119.cell? ⟨gb638, 2, none⟩ = some (.int .i64 t628) ∧ w119.cell? ⟨gb638, 3, none⟩ = some (.int .i64 t629) ∧ w119.cell? ⟨gb638, 4, none⟩ = some (.int .i64 t630) ∧ w119.cell? ⟨gb638, 5, none⟩ = some (.slice Ao62 t631.length co62) ∧ w119.cell? ⟨gb638, 6, none⟩ = some (.slice Ao63 t634.length co63) ∧ w119.cell? ⟨gb651, 0, none⟩ = some (.int .i64 t639) ∧ w119.cell? ⟨gb651, 1, none⟩ = some (.int .i64 t640) ∧ w119.cell? ⟨gb651, 2, none⟩ = some (.int .i64 t641) ∧ w119.cell? ⟨gb651, 3, none⟩ = some (.int .i64 t642) ∧ w119.cell? ⟨gb651, 4, none⟩ = some (.int .i64 t643) ∧ w119.cell? ⟨gb651, 5, none⟩ = some (.slice Ao73 t644.length co73) ∧ w119.cell? ⟨gb651, 6, none⟩ = some (.slice Ao74 t647.length co74) ∧ w119.cell? ⟨gb664, 0, none⟩ = some (.int .i64 t652) ∧ w119.cell? ⟨gb664, 1, none⟩ = some (.int .i64 t653) ∧ w119.cell? ⟨gb664, 2, none⟩ = some (.int .i64 t654) ∧ w119.cell? ⟨gb664, 3, none⟩ = some (.int .i64 t655) ∧ w119.cell? ⟨gb664, 4, none⟩ = some (.int .i64 t656) ∧ w119.cell? ⟨gb664, 5, none⟩ = some (.slice Ao85 t657.length co85) ∧ w119.cell? ⟨gb664, 6, none⟩ = some (.slice Ao86 t660.length co86) ∧ w119.cell? ⟨gb677, 0, none⟩ = some (.int .i64 t665) ∧ w119.cell? ⟨gb677, 1, none⟩ = some (.int .i64 t666) ∧ w119.cell? ⟨gb677, 2, none⟩ = some (.int .i64 t667) ∧ w119.cell? ⟨gb677, 3, none⟩ = some (.int .i64 t668) ∧ w119.cell? ⟨gb677, 4, none⟩ = some (.int .i64 t669) ∧ w119.cell? ⟨gb677, 5, none⟩ = some (.slice Ao98 t670.length co98) ∧ w119.cell? ⟨gb677, 6, none⟩ = some (.slice Ao99 t673.length co99) ∧ w119.cell? ⟨gb690, 0, none⟩ = some (.int .i64 t678) ∧ w119.cell? ⟨gb690, 1, none⟩ = some (.int .i64 t679) ∧ w119.cell? ⟨gb690, 2, none⟩ = some (.int .i64 t680) ∧ w119.cell? ⟨gb690, 3, none⟩ = some (.int .i64 t681) ∧ w119.cell? ⟨gb690, 4, none⟩ = some (.int .i64 t682) ∧ w119.cell? ⟨gb690, 5, none⟩ = some (.slice Ao112 t683.length co112) ∧ w119.cell? ⟨gb690, 6, none⟩ = some (.slice Ao113 t686.length co113) ∧ w119.cell? ⟨gb587, 0, none⟩ = some (.int .i64 t589) ∧ w119.cell? ⟨gb587, 1, none⟩ = some (.int .i64 t590) ∧ w119.cell? ⟨gb587, 2, none⟩ = some (.int .i64 t591) ∧ w119.cell? ⟨gb587, 3, none⟩ = some (.int .i64 t592) ∧ w119.cell? ⟨gb587, 4, none⟩ = some (.int .i64 t593) ∧ w119.cell? ⟨gb587, 5, none⟩ = some (.slice Ao12 t594.length co12) ∧ w119.cell? ⟨gb587, 6, none⟩ = some (.slice Ao13 t597.length co13) := hS_
   refine norm_ (a' := ?_) ?_ ?_
   rotate_left
   ·simp only [putAll, Act.put, List.setIfInBounds_toArray, List.set_cons_zero, List.set_cons_succ]
    rfl
   refine pure_ (i := 6) (N := some 82) (v := ?_) (a' := ?_) (bA 51 127) rfl rfl (any_of HT_.out (by kernel_rfl)) (fun _ _ _ h => h) (Or.inl ⟨by rfl, ?_⟩) ?_ ?_
   rotate_left
   ·intro w'
    go_simp
    with_reducible rfl
   rotate_left
   ·simp only [Act.put, List.setIfInBounds_toArray, List.set_cons_zero, List.set_cons_succ, i64_w, i32_w]
    rfl
   refine pure_ (i := 7) (N := some 83) (v := ?_) (a' := ?_) (bA 51 255) rfl rfl (any_of HT_.out (by kernel_rfl)) (fun _ _ _ h => h) (Or.inl ⟨by rfl, ?_⟩) ?_ ?_
   rotate_left
   ·intro w'
    go_simp
    with_reducible rfl
   rotate_left
   ·simp only [Act.put, List.setIfInBounds_toArray, List.set_cons_zero, List.set_cons_succ, i64_w, i32_w]
    rfl
   refine pure_ (i := 8) (N := some 84) (v := ?_) (a' := ?_) (bA 51 511) rfl rfl (any_of HT_.out (by kernel_rfl)) (fun _ _ _ h => h) (Or.inl ⟨by rfl, ?_⟩) ?_ ?_
   rotate_left
   ·intro w'
    go_simp
    with_reducible rfl
   rotate_left
   ·simp only [Act.put, List.setIfInBounds_toArray, List.set_cons_zero, List.set_cons_succ, i64_w, i32_w]
    rfl
   refine pure_ (i := 9) (N := some 85) (v := ?_) (a' := ?_) (bA 51 1023) rfl rfl (any_of HT_.out (by kernel_rfl)) (fun _ _ _ h => h) (Or.inl ⟨by rfl, ?_⟩) ?_ ?_
   rotate_left
   ·intro w'
    go_simp
    with_reducible rfl
   rotate_left
   ·simp only [Act.put, List.setIfInBounds_toArray, List.set_cons_zero, List.set_cons_succ, i64_w, i32_w]
    rfl
   refine pure_ (i := 10) (N := some 86) (v := ?_) (a' := ?_) (bA 51 2047) rfl rfl (any_of HT_.out (by kernel_rfl)) (fun _ _ _ h => h) (Or.inl ⟨by rfl, ?_⟩) ?_ ?_
   rotate_left
   ·intro w'
    go_simp
    with_reducible rfl
   rotate_left
   ·simp only [Act.put, List.setIfInBounds_toArray, List.set_cons_zero, List.set_cons_succ, i64_w, i32_w]
    rfl
   refine pure_ (i := 11) (N := some 87) (v := ?_) (a' := ?_) (bA 51 4095) rfl rfl (any_of HT_.out (by kernel_rfl)) (fun _ _ _ h => h) (Or.inl ⟨by rfl, ?_⟩) ?_ ?_
   rotate_left
   ·intro w'
    go_simp
    with_reducible rfl
   rotate_left
   ·simp only [Act.put, List.setIfInBounds_toArray, List.set_cons_zero, List.set_cons_succ, i64_w, i32_w]
    rfl
   refine pure_ (i := 12) (N := some 88) (v := ?_) (a' := ?_) (bA 51 8191) rfl rfl (any_of HT_.out (by kernel_rfl)) (fun _ _ _ h => h) (Or.inl ⟨by rfl, ?_⟩) ?_ ?_
   rotate_left
   ·intro w'
    go_simp
    with_reducible rfl
   rotate_left
   ·simp only [Act.put, List.setIfInBounds_toArray, List.set_cons_zero, List.set_cons_succ, i64_w, i32_w]
    rfl
   refine pure_ (i := 13) (N := some 89) (v := ?_) (a' := ?_) (bA 51 16383) rfl rfl (any_of HT_.out (by kernel_rfl)) (fun _ _ _ h => h) (Or.inl ⟨by rfl, ?_⟩) ?_ ?_
   rotate_left
   ·intro w'
    go_simp
    with_reducible rfl
   rotate_left
   ·simp only [Act.put, List.setIfInBounds_toArray, List.set_cons_zero, List.set_cons_succ, i64_w, i32_w]
    rfl
   refine take_ (i := 14) (N := some 90) (v := ?_) (a' := ?_) (bA 51 32767) rfl rfl (take_ofW HT_.out HW_.out (by kernel_rfl)) (fun _ _ _ h => h) (Or.inl ⟨by rfl, ?_⟩) hHeld ?_ ?_
   rotate_left
   ·rintro w' ⟨s0, s1, s2, s3, s4, s5, s6, s7, s8, s9, s10, s11, s12, s13, s14, s15, s16, s17, s18, s19, s20, s21, s22, s23, s24, s25, s26, s27, s28, s29, s30, s31, s32, s33, s34, s35, s36, s37, s38, s39, s40, s41, s42, s43, s44, s45, s46, s47, s48⟩
    go_simp
    with_reducible rfl
   rotate_left
   ·simp only [Act.put, List.setIfInBounds_toArray, List.set_cons_zero, List.set_cons_succ, i64_w, i32_w]
    rfl
   refine take_ (i := 15) (N := some 91) (v := ?_) (a' := ?_) (bA 51 65535) rfl rfl (take_ofW HT_.out HW_.out (by kernel_rfl)) (fun _ _ _ h => h) (Or.inl ⟨by rfl, ?_⟩) hHeld ?_ ?_
   rotate_left
   ·rintro w' ⟨s0, s1, s2, s3, s4, s5, s6, s7, s8, s9, s10, s11, s12, s13, s14, s15, s16, s17, s18, s19, s20, s21, s22, s23, s24, s25, s26, s27, s28, s29, s30, s31, s32, s33, s34, s35, s36, s37, s38, s39, s40, s41, s42, s43, s44, s45, s46, s47, s48⟩
    go_simp
    with_reducible rfl
   rotate_left
   ·simp only [Act.put, List.setIfInBounds_toArray, List.set_cons_zero, List.set_cons_succ, i64_w, i32_w]
    rfl
   refine one_ (i := 16) (N := some 92) (bA 51 131071) rfl rfl (one_of HT_.out (by kernel_rfl)) (by decide) (fun K hK => ?_)
   refine goes_ Try.func29 (by kernel_rfl) rfl #[.agg #[.int .i64 t613, .int .i64 t614, .int .i64 t615, .int .i64 t616, .int .i64 t617, .slice Ao53 t618.length co53, .slice Ao54 t621.length co54], .agg #[.int .i64 t626, .int .i64 t627, .int .i64 t628, .int .i64 t629, .int .i64 t630, .slice Ao62 t631.length co62, .slice Ao63 t634.length co63]] (by rfl) rfl rfl (by (try simp only [List.map_toArray, List.map_cons, List.map_nil]); first | done | rfl | (simp only [List.length_drop, List.length_take]; rfl)) ?_
   with_reducible refine (selvedgeref18_Same.calls kj4 t613 t614 t615 t616 t617 _ _ t618 _ _ t621 t626 t627 t628 t629 t630 _ _ t631 _ _ t634 true _ ?side1 ?side2 ?side3 ?side4 ?side5 ?side6 ?side7 ?side8 A30.out).mono ?_
   (case side1 => repeat (first | exact (Kd.R_reads' HO620.out).2.2 | (with_reducible refine Kd.C_alloc ?_ _) | (with_reducible refine Kd.C_drewN ?_ _) | (with_reducible refine Kd.C_drew ?_)))
   (case side2 => exact (Kd.R_reads' HO620.out).2.1)
   (case side3 => repeat (first | exact (Kd.R_reads' HO623.out).2.2 | (with_reducible refine Kd.C_alloc ?_ _) | (with_reducible refine Kd.C_drewN ?_ _) | (with_reducible refine Kd.C_drew ?_)))
   (case side4 => exact (Kd.R_reads' HO623.out).2.1)
   (case side5 => repeat (first | exact (Kd.R_reads' HO633.out).2.2 | (with_reducible refine Kd.C_alloc ?_ _) | (with_reducible refine Kd.C_drewN ?_ _) | (with_reducible refine Kd.C_drew ?_)))
   (case side6 => exact (Kd.R_reads' HO633.out).2.1)
   (case side7 => repeat (first | exact (Kd.R_reads' HO636.out).2.2 | (with_reducible refine Kd.C_alloc ?_ _) | (with_reducible refine Kd.C_drewN ?_ _) | (with_reducible refine Kd.C_drew ?_)))
   (case side8 => exact (Kd.R_reads' HO636.out).2.1)
   rintro e w120 ⟨rfl, hb⟩
   refine ⟨_, rfl, ?_⟩
   have n0_ := Aside0.mk (Kd.V_below (vk HO_1) hb)
   have n1_ := Aside0.mk (Kd.R_below (rk HO_588005) hb)
   have n2_ := Aside0.mk (Kd.R_below (rk HO_588006) hb)
   have n3_ := Aside0.mk (Kd.R_below (rk HO607) hb)
   have n4_ := Aside0.mk (Kd.R_below (rk HO611) hb)
   have n5_ := Aside0.mk (Kd.R_below (rk HO620) hb)
   have n6_ := Aside0.mk (Kd.R_below (rk HO623) hb)
   have n7_ := Aside0.mk (Kd.R_below (rk HO633) hb)
   have n8_ := Aside0.mk (Kd.R_below (rk HO636) hb)
   have n9_ := Aside0.mk (Kd.R_below (rk HO646) hb)
   have n10_ := Aside0.mk (Kd.R_below (rk HO649) hb)
   have n11_ := Aside0.mk (Kd.R_below (rk HO659) hb)
   have n12_ := Aside0.mk (Kd.R_below (rk HO662) hb)
   have n13_ := Aside0.mk (Kd.R_below (rk HO672) hb)
   have n14_ := Aside0.mk (Kd.R_below (rk HO675) hb)
   have n15_ := Aside0.mk (Kd.R_below (rk HO685) hb)
   have n16_ := Aside0.mk (Kd.R_below (rk HO688) hb)
   have n17_ := Aside0.mk (bb BK587 hb)
   have n18_ := Aside0.mk (bb BK588 hb)
   have n19_ := Aside0.mk (bb BK625 hb)
   have n20_ := Aside0.mk (bb BK638 hb)
   have n21_ := Aside0.mk (bb BK651 hb)
   have n22_ := Aside0.mk (bb BK664 hb)
   have n23_ := Aside0.mk (bb BK677 hb)
   have n24_ := Aside0.mk (bb BK690 hb)
   have n25_ := Aside0.mk (below_step (bs HB (by simp [ag, GE587.out, GE588.out, GE625.out, GE638.out, GE651.out, GE664.out, GE677.out, GE690.out])) hb)
   clear HO_1
   clear HO_588005
   clear HO_588006
   clear HO607
   clear HO611
   clear HO620
   clear HO623
   clear HO633
   clear HO636
   clear HO646
   clear HO649
   clear HO659
   clear HO662
   clear HO672
   clear HO675
   clear HO685
   clear HO688
   clear BK587
   clear BK588
   clear BK625
   clear BK638
   clear BK651
   clear BK664
   clear BK677
   clear BK690
   clear HB
   have HO_1 := n0_
   have HO_588005 := n1_
   have HO_588006 := n2_
   have HO607 := n3_
   have HO611 := n4_
   have HO620 := n5_
   have HO623 := n6_
   have HO633 := n7_
   have HO636 := n8_
   have HO646 := n9_
   have HO649 := n10_
   have HO659 := n11_
   have HO662 := n12_
   have HO672 := n13_
   have HO675 := n14_
   have HO685 := n15_
   have HO688 := n16_
   have BK587 := n17_
   have BK588 := n18_
   have BK625 := n19_
   have BK638 := n20_
   have BK651 := n21_
   have BK664 := n22_
   have BK677 := n23_
   have BK690 := n24_
   have HB := n25_
   clear n0_ n1_ n2_ n3_ n4_ n5_ n6_ n7_ n8_ n9_ n10_ n11_ n12_ n13_ n14_ n15_ n16_ n17_ n18_ n19_ n20_ n21_ n22_ n23_ n24_ n25_
   (try clear hb)
   (try clear hb2)
   (try clear hk)
   (try clear hi)
   refine hK.out _ _ ⟨(blk_cell BK625.out 0).trans rfl, (blk_cell BK625.out 1).trans rfl, (blk_cell BK625.out 2).trans rfl, (blk_cell BK625.out 3).trans rfl, (blk_cell BK625.out 4).trans rfl, (blk_cell BK625.out 5).trans rfl, (blk_cell BK625.out 6).trans rfl, (blk_cell BK638.out 0).trans rfl, (blk_cell BK638.out 1).trans rfl, (blk_cell BK638.out 2).trans rfl, (blk_cell BK638.out 3).trans rfl, (blk_cell BK638.out 4).trans rfl, (blk_cell BK638.out 5).trans rfl, (blk_cell BK638.out 6).trans rfl, (blk_cell BK651.out 0).trans rfl, (blk_cell BK651.out 1).trans rfl, (blk_cell BK651.out 2).trans rfl, (blk_cell BK651.out 3).trans rfl, (blk_cell BK651.out 4).trans rfl, (blk_cell BK651.out 5).trans rfl, (blk_cell BK651.out 6).trans rfl, (blk_cell BK664.out 0).trans rfl, (blk_cell BK664.out 1).trans rfl, (blk_cell BK664.out 2).trans rfl, (blk_cell BK664.out 3).trans rfl, (blk_cell BK664.out 4).trans rfl, (blk_cell BK664.out 5).trans rfl, (blk_cell BK664.out 6).trans rfl, (blk_cell BK677.out 0).trans rfl, (blk_cell BK677.out 1).trans rfl, (blk_cell BK677.out 2).trans rfl, (blk_cell BK677.out 3).trans rfl, (blk_cell BK677.out 4).trans rfl, (blk_cell BK677.out 5).trans rfl, (blk_cell BK677.out 6).trans rfl, (blk_cell BK690.out 0).trans rfl, (blk_cell BK690.out 1).trans rfl, (blk_cell BK690.out 2).trans rfl, (blk_cell BK690.out 3).trans rfl, (blk_cell BK690.out 4).trans rfl, (blk_cell BK690.out 5).trans rfl, (blk_cell BK690.out 6).trans rfl, (blk_cell BK587.out 0).trans rfl, (blk_cell BK587.out 1).trans rfl, (blk_cell BK587.out 2).trans rfl, (blk_cell BK587.out 3).trans rfl, (blk_cell BK587.out 4).trans rfl, (blk_cell BK587.out 5).trans rfl, (blk_cell BK587.out 6).trans rfl⟩ (fun hHeld => ?_)
   clear hK K
   refine norm_ (a' := ?_) ?_ ?_
   rotate_left
   ·show Act.put _ (some 92) _ = _
    simp only [Act.put, List.setIfInBounds_toArray, List.set_cons_zero, List.set_cons_succ, i64_w, i32_w]
    rfl
   refine pure_ (i := 17) (N := some 93) (v := ?_) (a' := ?_) (bA 51 262143) rfl rfl (any_of HT_.out (by kernel_rfl)) (fun _ _ _ h => h) (Or.inl ⟨by rfl, ?_⟩) ?_ ?_
   rotate_left
   ·intro w'
    go_simp
    with_reducible rfl
   rotate_left
   ·simp only [Act.put, List.setIfInBounds_toArray, List.set_cons_zero, List.set_cons_succ, i64_w, i32_w]
    rfl
   refine pure_ (i := 18) (N := some 94) (v := ?_) (a' := ?_) (bA 51 524287) rfl rfl (any_of HT_.out (by kernel_rfl)) (fun _ _ _ h => h) (Or.inl ⟨by rfl, ?_⟩) ?_ ?_
   rotate_left
   ·intro w'
    go_simp
    with_reducible rfl
   rotate_left
   ·simp only [Act.put, List.setIfInBounds_toArray, List.set_cons_zero, List.set_cons_succ, i64_w, i32_w]
    rfl
   refine pure_ (i := 19) (N := some 95) (v := ?_) (a' := ?_) (bA 51 1048575) rfl rfl (any_of HT_.out (by kernel_rfl)) (fun _ _ _ h => h) (Or.inl ⟨by rfl, ?_⟩) ?_ ?_
   rotate_left
   ·intro w'
    go_simp
    with_reducible rfl
   rotate_left
   ·simp only [Act.put, List.setIfInBounds_toArray, List.set_cons_zero, List.set_cons_succ, i64_w, i32_w]
    rfl
   refine pure_ (i := 20) (N := some 96) (v := ?_) (a' := ?_) (bA 51 2097151) rfl rfl (any_of HT_.out (by kernel_rfl)) (fun _ _ _ h => h) (Or.inl ⟨by rfl, ?_⟩) ?_ ?_
   rotate_left
   ·intro w'
    go_simp
    with_reducible rfl
   rotate_left
   ·simp only [Act.put, List.setIfInBounds_toArray, List.set_cons_zero, List.set_cons_succ, i64_w, i32_w]
    rfl
   refine pure_ (i := 21) (N := some 97) (v := ?_) (a' := ?_) (bA 51 4194303) rfl rfl (any_of HT_.out (by kernel_rfl)) (fun _ _ _ h => h) (Or.inl ⟨by rfl, ?_⟩) ?_ ?_
   rotate_left
   ·intro w'
    go_simp
    with_reducible rfl
   rotate_left
   ·simp only [Act.put, List.setIfInBounds_toArray, List.set_cons_zero, List.set_cons_succ, i64_w, i32_w]
    rfl
   refine pure_ (i := 22) (N := some 98) (v := ?_) (a' := ?_) (bA 51 8388607) rfl rfl (any_of HT_.out (by kernel_rfl)) (fun _ _ _ h => h) (Or.inl ⟨by rfl, ?_⟩) ?_ ?_
   rotate_left
   ·intro w'
    go_simp
    with_reducible rfl
   rotate_left
   ·simp only [Act.put, List.setIfInBounds_toArray, List.set_cons_zero, List.set_cons_succ, i64_w, i32_w]
    rfl
   refine pure_ (i := 23) (N := some 99) (v := ?_) (a' := ?_) (bA 51 16777215) rfl rfl (any_of HT_.out (by kernel_rfl)) (fun _ _ _ h => h) (Or.inl ⟨by rfl, ?_⟩) ?_ ?_
   rotate_left
   ·intro w'
    go_simp
    with_reducible rfl
   rotate_left
   ·simp only [Act.put, List.setIfInBounds_toArray, List.set_cons_zero, List.set_cons_succ, i64_w, i32_w]
    rfl
   refine take_ (i := 24) (N := some 100) (v := ?_) (a' := ?_) (bA 51 33554431) rfl rfl (take_ofW HT_.out HW_.out (by kernel_rfl)) (fun _ _ _ h => h) (Or.inl ⟨by rfl, ?_⟩) hHeld ?_ ?_
   rotate_left
   ·rintro w' ⟨s0, s1, s2, s3, s4, s5, s6, s7, s8, s9, s10, s11, s12, s13, s14, s15, s16, s17, s18, s19, s20, s21, s22, s23, s24, s25, s26, s27, s28, s29, s30, s31, s32, s33, s34, s35, s36, s37, s38, s39, s40, s41, s42, s43, s44, s45, s46, s47, s48⟩
    go_simp
    with_reducible rfl
   rotate_left
   ·simp only [Act.put, List.setIfInBounds_toArray, List.set_cons_zero, List.set_cons_succ, i64_w, i32_w]
    rfl
   refine take_ (i := 25) (N := some 101) (v := ?_) (a' := ?_) (bA 51 67108863) rfl rfl (take_ofW HT_.out HW_.out (by kernel_rfl)) (fun _ _ _ h => h) (Or.inl ⟨by rfl, ?_⟩) hHeld ?_ ?_
   rotate_left
   ·rintro w' ⟨s0, s1, s2, s3, s4, s5, s6, s7, s8, s9, s10, s11, s12, s13, s14, s15, s16, s17, s18, s19, s20, s21, s22, s23, s24, s25, s26, s27, s28, s29, s30, s31, s32, s33, s34, s35, s36, s37, s38, s39, s40, s41, s42, s43, s44, s45, s46, s47, s48⟩
    go_simp
    with_reducible rfl
   rotate_left
   ·simp only [Act.put, List.setIfInBounds_toArray, List.set_cons_zero, List.set_cons_succ, i64_w, i32_w]
    rfl
   refine one_ (i := 26) (N := some 102) (bA 51 134217727) rfl rfl (one_of HT_.out (by kernel_rfl)) (by decide) (fun K hK => ?_)
   refine goes_ Try.func29 (by kernel_rfl) rfl #[.agg #[.int .i64 t639, .int .i64 t640, .int .i64 t641, .int .i64 t642, .int .i64 t643, .slice Ao73 t644.length co73, .slice Ao74 t647.length co74], .agg #[.int .i64 t652, .int .i64 t653, .int .i64 t654, .int .i64 t655, .int .i64 t656, .slice Ao85 t657.length co85, .slice Ao86 t660.length co86]] (by rfl) rfl rfl (by (try simp only [List.map_toArray, List.map_cons, List.map_nil]); first | done | rfl | (simp only [List.length_drop, List.length_take]; rfl)) ?_
   with_reducible refine (selvedgeref18_Same.calls kj4 t639 t640 t641 t642 t643 _ _ t644 _ _ t647 t652 t653 t654 t655 t656 _ _ t657 _ _ t660 true _ ?side1 ?side2 ?side3 ?side4 ?side5 ?side6 ?side7 ?side8 A33.out).mono ?_
   (case side1 => repeat (first | exact (Kd.R_reads' HO646.out).2.2 | (with_reducible refine Kd.C_alloc ?_ _) | (with_reducible refine Kd.C_drewN ?_ _) | (with_reducible refine Kd.C_drew ?_)))
   (case side2 => exact (Kd.R_reads' HO646.out).2.1)
   (case side3 => repeat (first | exact (Kd.R_reads' HO649.out).2.2 | (with_reducible refine Kd.C_alloc ?_ _) | (with_reducible refine Kd.C_drewN ?_ _) | (with_reducible refine Kd.C_drew ?_)))
   (case side4 => exact (Kd.R_reads' HO649.out).2.1)
   (case side5 => repeat (first | exact (Kd.R_reads' HO659.out).2.2 | (with_reducible refine Kd.C_alloc ?_ _) | (with_reducible refine Kd.C_drewN ?_ _) | (with_reducible refine Kd.C_drew ?_)))
   (case side6 => exact (Kd.R_reads' HO659.out).2.1)
   (case side7 => repeat (first | exact (Kd.R_reads' HO662.out).2.2 | (with_reducible refine Kd.C_alloc ?_ _) | (with_reducible refine Kd.C_drewN ?_ _) | (with_reducible refine Kd.C_drew ?_)))
   (case side8 => exact (Kd.R_reads' HO662.out).2.1)
   rintro e w121 ⟨rfl, hb⟩
   refine ⟨_, rfl, ?_⟩
   have n0_ := Aside0.mk (Kd.V_below (vk HO_1) hb)
   have n1_ := Aside0.mk (Kd.R_below (rk HO_588005) hb)
   have n2_ := Aside0.mk (Kd.R_below (rk HO_588006) hb)
   have n3_ := Aside0.mk (Kd.R_below (rk HO607) hb)
   have n4_ := Aside0.mk (Kd.R_below (rk HO611) hb)
   have n5_ := Aside0.mk (Kd.R_below (rk HO620) hb)
   have n6_ := Aside0.mk (Kd.R_below (rk HO623) hb)
   have n7_ := Aside0.mk (Kd.R_below (rk HO633) hb)
   have n8_ := Aside0.mk (Kd.R_below (rk HO636) hb)
   have n9_ := Aside0.mk (Kd.R_below (rk HO646) hb)
   have n10_ := Aside0.mk (Kd.R_below (rk HO649) hb)
   have n11_ := Aside0.mk (Kd.R_below (rk HO659) hb)
   have n12_ := Aside0.mk (Kd.R_below (rk HO662) hb)
   have n13_ := Aside0.mk (Kd.R_below (rk HO672) hb)
   have n14_ := Aside0.mk (Kd.R_below (rk HO675) hb)
   have n15_ := Aside0.mk (Kd.R_below (rk HO685) hb)
   have n16_ := Aside0.mk (Kd.R_below (rk HO688) hb)
   have n17_ := Aside0.mk (bb BK587 hb)
   have n18_ := Aside0.mk (bb BK588 hb)
   have n19_ := Aside0.mk (bb BK625 hb)
   have n20_ := Aside0.mk (bb BK638 hb)
   have n21_ := Aside0.mk (bb BK651 hb)
   have n22_ := Aside0.mk (bb BK664 hb)
   have n23_ := Aside0.mk (bb BK677 hb)
   have n24_ := Aside0.mk (bb BK690 hb)
   have n25_ := Aside0.mk (below_step (bs HB (by simp [ag, GE587.out, GE588.out, GE625.out, GE638.out, GE651.out, GE664.out, GE677.out, GE690.out])) hb)
   clear HO_1
   clear HO_588005
   clear HO_588006
   clear HO607
   clear HO611
   clear HO620
   clear HO623
   clear HO633
   clear HO636
   clear HO646
   clear HO649
   clear HO659
   clear HO662
   clear HO672
   clear HO675
   clear HO685
   clear HO688
   clear BK587
   clear BK588
   clear BK625
   clear BK638
   clear BK651
   clear BK664
   clear BK677
   clear BK690
   clear HB
   have HO_1 := n0_
   have HO_588005 := n1_
   have HO_588006 := n2_
   have HO607 := n3_
   have HO611 := n4_
   have HO620 := n5_
   have HO623 := n6_
   have HO633 := n7_
   have HO636 := n8_
   have HO646 := n9_
   have HO649 := n10_
   have HO659 := n11_
   have HO662 := n12_
   have HO672 := n13_
   have HO675 := n14_
   have HO685 := n15_
   have HO688 := n16_
   have BK587 := n17_
   have BK588 := n18_
   have BK625 := n19_
   have BK638 := n20_
   have BK651 := n21_
   have BK664 := n22_
   have BK677 := n23_
   have BK690 := n24_
   have HB := n25_
   clear n0_ n1_ n2_ n3_ n4_ n5_ n6_ n7_ n8_ n9_ n10_ n11_ n12_ n13_ n14_ n15_ n16_ n17_ n18_ n19_ n20_ n21_ n22_ n23_ n24_ n25_
   (try clear hb)
   (try clear hb2)
   (try clear hk)
   (try clear hi)
   refine hK.out _ _ ⟨(blk_cell BK625.out 0).trans rfl, (blk_cell BK625.out 1).trans rfl, (blk_cell BK625.out 2).trans rfl, (blk_cell BK625.out 3).trans rfl, (blk_cell BK625.out 4).trans rfl, (blk_cell BK625.out 5).trans rfl, (blk_cell BK625.out 6).trans rfl, (blk_cell BK638.out 0).trans rfl, (blk_cell BK638.out 1).trans rfl, (blk_cell BK638.out 2).trans rfl, (blk_cell BK638.out 3).trans rfl, (blk_cell BK638.out 4).trans rfl, (blk_cell BK638.out 5).trans rfl, (blk_cell BK638.out 6).trans rfl, (blk_cell BK651.out 0).trans rfl, (blk_cell BK651.out 1).trans rfl, (blk_cell BK651.out 2).trans rfl, (blk_cell BK651.out 3).trans rfl, (blk_cell BK651.out 4).trans rfl, (blk_cell BK651.out 5).trans rfl, (blk_cell BK651.out 6).trans rfl, (blk_cell BK664.out 0).trans rfl, (blk_cell BK664.out 1).trans rfl, (blk_cell BK664.out 2).trans rfl, (blk_cell BK664.out 3).trans rfl, (blk_cell BK664.out 4).trans rfl, (blk_cell BK664.out 5).trans rfl, (blk_cell BK664.out 6).trans rfl, (blk_cell BK677.out 0).trans rfl, (blk_cell BK677.out 1).trans rfl, (blk_cell BK677.out 2).trans rfl, (blk_cell BK677.out 3).trans rfl, (blk_cell BK677.out 4).trans rfl, (blk_cell BK677.out 5).trans rfl, (blk_cell BK677.out 6).trans rfl, (blk_cell BK690.out 0).trans rfl, (blk_cell BK690.out 1).trans rfl, (blk_cell BK690.out 2).trans rfl, (blk_cell BK690.out 3).trans rfl, (blk_cell BK690.out 4).trans rfl, (blk_cell BK690.out 5).trans rfl, (blk_cell BK690.out 6).trans rfl, (blk_cell BK587.out 0).trans rfl, (blk_cell BK587.out 1).trans rfl, (blk_cell BK587.out 2).trans rfl, (blk_cell BK587.out 3).trans rfl, (blk_cell BK587.out 4).trans rfl, (blk_cell BK587.out 5).trans rfl, (blk_cell BK587.out 6).trans rfl⟩ (fun hHeld => ?_)
   clear hK K
   refine norm_ (a' := ?_) ?_ ?_
   rotate_left
   ·show Act.put _ (some 102) _ = _
    simp only [Act.put, List.setIfInBounds_toArray, List.set_cons_zero, List.set_cons_succ, i64_w, i32_w]
    rfl
   refine pure_ (i := 27) (N := some 103) (v := ?_) (a' := ?_) (bA 51 268435455) rfl rfl (any_of HT_.out (by kernel_rfl)) (fun _ _ _ h => h) (Or.inl ⟨by rfl, ?_⟩) ?_ ?_
   rotate_left
   ·intro w'
    go_simp
    with_reducible rfl
   rotate_left
   ·simp only [Act.put, List.setIfInBounds_toArray, List.set_cons_zero, List.set_cons_succ, i64_w, i32_w]
    rfl
   refine pure_ (i := 28) (N := some 104) (v := ?_) (a' := ?_) (bA 51 536870911) rfl rfl (any_of HT_.out (by kernel_rfl)) (fun _ _ _ h => h) (Or.inl ⟨by rfl, ?_⟩) ?_ ?_
   rotate_left
   ·intro w'
    go_simp
    with_reducible rfl
   rotate_left
   ·simp only [Act.put, List.setIfInBounds_toArray, List.set_cons_zero, List.set_cons_succ, i64_w, i32_w]
    rfl
   refine pure_ (i := 29) (N := some 105) (v := ?_) (a' := ?_) (bA 51 1073741823) rfl rfl (any_of HT_.out (by kernel_rfl)) (fun _ _ _ h => h) (Or.inl ⟨by rfl, ?_⟩) ?_ ?_
   rotate_left
   ·intro w'
    go_simp
    with_reducible rfl
   rotate_left
   ·simp only [Act.put, List.setIfInBounds_toArray, List.set_cons_zero, List.set_cons_succ, i64_w, i32_w]
    rfl
   refine pure_ (i := 30) (N := some 106) (v := ?_) (a' := ?_) (bA 51 2147483647) rfl rfl (any_of HT_.out (by kernel_rfl)) (fun _ _ _ h => h) (Or.inl ⟨by rfl, ?_⟩) ?_ ?_
   rotate_left
   ·intro w'
    go_simp
    with_reducible rfl
   rotate_left
   ·simp only [Act.put, List.setIfInBounds_toArray, List.set_cons_zero, List.set_cons_succ, i64_w, i32_w]
    rfl
   refine pure_ (i := 31) (N := some 107) (v := ?_) (a' := ?_) (bA 51 4294967295) rfl rfl (any_of HT_.out (by kernel_rfl)) (fun _ _ _ h => h) (Or.inl ⟨by rfl, ?_⟩) ?_ ?_
   rotate_left
   ·intro w'
    go_simp
    with_reducible rfl
   rotate_left
   ·simp only [Act.put, List.setIfInBounds_toArray, List.set_cons_zero, List.set_cons_succ, i64_w, i32_w]
    rfl
   refine pure_ (i := 32) (N := some 108) (v := ?_) (a' := ?_) (bA 51 8589934591) rfl rfl (any_of HT_.out (by kernel_rfl)) (fun _ _ _ h => h) (Or.inl ⟨by rfl, ?_⟩) ?_ ?_
   rotate_left
   ·intro w'
    go_simp
    with_reducible rfl
   rotate_left
   ·simp only [Act.put, List.setIfInBounds_toArray, List.set_cons_zero, List.set_cons_succ, i64_w, i32_w]
    rfl
   refine pure_ (i := 33) (N := some 109) (v := ?_) (a' := ?_) (bA 51 17179869183) rfl rfl (any_of HT_.out (by kernel_rfl)) (fun _ _ _ h => h) (Or.inl ⟨by rfl, ?_⟩) ?_ ?_
   rotate_left
   ·intro w'
    go_simp
    with_reducible rfl
   rotate_left
   ·simp only [Act.put, List.setIfInBounds_toArray, List.set_cons_zero, List.set_cons_succ, i64_w, i32_w]
    rfl
   refine take_ (i := 34) (N := some 110) (v := ?_) (a' := ?_) (bA 51 34359738367) rfl rfl (take_ofW HT_.out HW_.out (by kernel_rfl)) (fun _ _ _ h => h) (Or.inl ⟨by rfl, ?_⟩) hHeld ?_ ?_
   rotate_left
   ·rintro w' ⟨s0, s1, s2, s3, s4, s5, s6, s7, s8, s9, s10, s11, s12, s13, s14, s15, s16, s17, s18, s19, s20, s21, s22, s23, s24, s25, s26, s27, s28, s29, s30, s31, s32, s33, s34, s35, s36, s37, s38, s39, s40, s41, s42, s43, s44, s45, s46, s47, s48⟩
    go_simp
    with_reducible rfl
   rotate_left
   ·simp only [Act.put, List.setIfInBounds_toArray, List.set_cons_zero, List.set_cons_succ, i64_w, i32_w]
    rfl
   refine take_ (i := 35) (N := some 111) (v := ?_) (a' := ?_) (bA 51 68719476735) rfl rfl (take_ofW HT_.out HW_.out (by kernel_rfl)) (fun _ _ _ h => h) (Or.inl ⟨by rfl, ?_⟩) hHeld ?_ ?_
   rotate_left
   ·rintro w' ⟨s0, s1, s2, s3, s4, s5, s6, s7, s8, s9, s10, s11, s12, s13, s14, s15, s16, s17, s18, s19, s20, s21, s22, s23, s24, s25, s26, s27, s28, s29, s30, s31, s32, s33, s34, s35, s36, s37, s38, s39, s40, s41, s42, s43, s44, s45, s46, s47, s48⟩
    go_simp
    with_reducible rfl
   rotate_left
   ·simp only [Act.put, List.setIfInBounds_toArray, List.set_cons_zero, List.set_cons_succ, i64_w, i32_w]
    rfl
   refine one_ (i := 36) (N := some 112) (bA 51 137438953471) rfl rfl (one_of HT_.out (by kernel_rfl)) (by decide) (fun K hK => ?_)
   refine goes_ Try.func29 (by kernel_rfl) rfl #[.agg #[.int .i64 t665, .int .i64 t666, .int .i64 t667, .int .i64 t668, .int .i64 t669, .slice Ao98 t670.length co98, .slice Ao99 t673.length co99], .agg #[.int .i64 t678, .int .i64 t679, .int .i64 t680, .int .i64 t681, .int .i64 t682, .slice Ao112 t683.length co112, .slice Ao113 t686.length co113]] (by rfl) rfl rfl (by (try simp only [List.map_toArray, List.map_cons, List.map_nil]); first | done | rfl | (simp only [List.length_drop, List.length_take]; rfl)) ?_
   with_reducible refine (selvedgeref18_Same.calls kj4 t665 t666 t667 t668 t669 _ _ t670 _ _ t673 t678 t679 t680 t681 t682 _ _ t683 _ _ t686 true _ ?side1 ?side2 ?side3 ?side4 ?side5 ?side6 ?side7 ?side8 A36.out).mono ?_
   (case side1 => repeat (first | exact (Kd.R_reads' HO672.out).2.2 | (with_reducible refine Kd.C_alloc ?_ _) | (with_reducible refine Kd.C_drewN ?_ _) | (with_reducible refine Kd.C_drew ?_)))
   (case side2 => exact (Kd.R_reads' HO672.out).2.1)
   (case side3 => repeat (first | exact (Kd.R_reads' HO675.out).2.2 | (with_reducible refine Kd.C_alloc ?_ _) | (with_reducible refine Kd.C_drewN ?_ _) | (with_reducible refine Kd.C_drew ?_)))
   (case side4 => exact (Kd.R_reads' HO675.out).2.1)
   (case side5 => repeat (first | exact (Kd.R_reads' HO685.out).2.2 | (with_reducible refine Kd.C_alloc ?_ _) | (with_reducible refine Kd.C_drewN ?_ _) | (with_reducible refine Kd.C_drew ?_)))
   (case side6 => exact (Kd.R_reads' HO685.out).2.1)
   (case side7 => repeat (first | exact (Kd.R_reads' HO688.out).2.2 | (with_reducible refine Kd.C_alloc ?_ _) | (with_reducible refine Kd.C_drewN ?_ _) | (with_reducible refine Kd.C_drew ?_)))
   (case side8 => exact (Kd.R_reads' HO688.out).2.1)
   rintro e w122 ⟨rfl, hb⟩
   refine ⟨_, rfl, ?_⟩
   have n0_ := Aside0.mk (Kd.V_below (vk HO_1) hb)
   have n1_ := Aside0.mk (Kd.R_below (rk HO_588005) hb)
   have n2_ := Aside0.mk (Kd.R_below (rk HO_588006) hb)
   have n3_ := Aside0.mk (Kd.R_below (rk HO607) hb)
   have n4_ := Aside0.mk (Kd.R_below (rk HO611) hb)
   have n5_ := Aside0.mk (Kd.R_below (rk HO620) hb)
   have n6_ := Aside0.mk (Kd.R_below (rk HO623) hb)
   have n7_ := Aside0.mk (Kd.R_below (rk HO633) hb)
   have n8_ := Aside0.mk (Kd.R_below (rk HO636) hb)
   have n9_ := Aside0.mk (Kd.R_below (rk HO646) hb)
   have n10_ := Aside0.mk (Kd.R_below (rk HO649) hb)
   have n11_ := Aside0.mk (Kd.R_below (rk HO659) hb)
   have n12_ := Aside0.mk (Kd.R_below (rk HO662) hb)
   have n13_ := Aside0.mk (Kd.R_below (rk HO672) hb)
   have n14_ := Aside0.mk (Kd.R_below (rk HO675) hb)
   have n15_ := Aside0.mk (Kd.R_below (rk HO685) hb)
   have n16_ := Aside0.mk (Kd.R_below (rk HO688) hb)
   have n17_ := Aside0.mk (bb BK587 hb)
   have n18_ := Aside0.mk (bb BK588 hb)
   have n19_ := Aside0.mk (bb BK625 hb)
   have n20_ := Aside0.mk (bb BK638 hb)
   have n21_ := Aside0.mk (bb BK651 hb)
   have n22_ := Aside0.mk (bb BK664 hb)
   have n23_ := Aside0.mk (bb BK677 hb)
   have n24_ := Aside0.mk (bb BK690 hb)
   have n25_ := Aside0.mk (below_step (bs HB (by simp [ag, GE587.out, GE588.out, GE625.out, GE638.out, GE651.out, GE664.out, GE677.out, GE690.out])) hb)
   clear HO_1
   clear HO_588005
   clear HO_588006
   clear HO607
   clear HO611
   clear HO620
   clear HO623
   clear HO633
   clear HO636
   clear HO646
   clear HO649
   clear HO659
   clear HO662
   clear HO672
   clear HO675
   clear HO685
   clear HO688
   clear BK587
   clear BK588
   clear BK625
   clear BK638
   clear BK651
   clear BK664
   clear BK677
   clear BK690
   clear HB
   have HO_1 := n0_
   have HO_588005 := n1_
   have HO_588006 := n2_
   have HO607 := n3_
   have HO611 := n4_
   have HO620 := n5_
   have HO623 := n6_
   have HO633 := n7_
   have HO636 := n8_
   have HO646 := n9_
   have HO649 := n10_
   have HO659 := n11_
   have HO662 := n12_
   have HO672 := n13_
   have HO675 := n14_
   have HO685 := n15_
   have HO688 := n16_
   have BK587 := n17_
   have BK588 := n18_
   have BK625 := n19_
   have BK638 := n20_
   have BK651 := n21_
   have BK664 := n22_
   have BK677 := n23_
   have BK690 := n24_
   have HB := n25_
   clear n0_ n1_ n2_ n3_ n4_ n5_ n6_ n7_ n8_ n9_ n10_ n11_ n12_ n13_ n14_ n15_ n16_ n17_ n18_ n19_ n20_ n21_ n22_ n23_ n24_ n25_
   (try clear hb)
   (try clear hb2)
   (try clear hk)
   (try clear hi)
   refine hK.out _ _ ⟨(blk_cell BK625.out 0).trans rfl, (blk_cell BK625.out 1).trans rfl, (blk_cell BK625.out 2).trans rfl, (blk_cell BK625.out 3).trans rfl, (blk_cell BK625.out 4).trans rfl, (blk_cell BK625.out 5).trans rfl, (blk_cell BK625.out 6).trans rfl, (blk_cell BK638.out 0).trans rfl, (blk_cell BK638.out 1).trans rfl, (blk_cell BK638.out 2).trans rfl, (blk_cell BK638.out 3).trans rfl, (blk_cell BK638.out 4).trans rfl, (blk_cell BK638.out 5).trans rfl, (blk_cell BK638.out 6).trans rfl, (blk_cell BK651.out 0).trans rfl, (blk_cell BK651.out 1).trans rfl, (blk_cell BK651.out 2).trans rfl, (blk_cell BK651.out 3).trans rfl, (blk_cell BK651.out 4).trans rfl, (blk_cell BK651.out 5).trans rfl, (blk_cell BK651.out 6).trans rfl, (blk_cell BK664.out 0).trans rfl, (blk_cell BK664.out 1).trans rfl, (blk_cell BK664.out 2).trans rfl, (blk_cell BK664.out 3).trans rfl, (blk_cell BK664.out 4).trans rfl, (blk_cell BK664.out 5).trans rfl, (blk_cell BK664.out 6).trans rfl, (blk_cell BK677.out 0).trans rfl, (blk_cell BK677.out 1).trans rfl, (blk_cell BK677.out 2).trans rfl, (blk_cell BK677.out 3).trans rfl, (blk_cell BK677.out 4).trans rfl, (blk_cell BK677.out 5).trans rfl, (blk_cell BK677.out 6).trans rfl, (blk_cell BK690.out 0).trans rfl, (blk_cell BK690.out 1).trans rfl, (blk_cell BK690.out 2).trans rfl, (blk_cell BK690.out 3).trans rfl, (blk_cell BK690.out 4).trans rfl, (blk_cell BK690.out 5).trans rfl, (blk_cell BK690.out 6).trans rfl, (blk_cell BK587.out 0).trans rfl, (blk_cell BK587.out 1).trans rfl, (blk_cell BK587.out 2).trans rfl, (blk_cell BK587.out 3).trans rfl, (blk_cell BK587.out 4).trans rfl, (blk_cell BK587.out 5).trans rfl, (blk_cell BK587.out 6).trans rfl⟩ (fun hHeld => ?_)
   clear hK K
   refine norm_ (a' := ?_) ?_ ?_
   rotate_left
   ·show Act.put _ (some 112) _ = _
    simp only [Act.put, List.setIfInBounds_toArray, List.set_cons_zero, List.set_cons_succ, i64_w, i32_w]
    rfl
   refine pure_ (i := 37) (N := some 113) (v := ?_) (a' := ?_) (bA 51 274877906943) rfl rfl (any_of HT_.out (by kernel_rfl)) (fun _ _ _ h => h) (Or.inl ⟨by rfl, ?_⟩) ?_ ?_
   rotate_left
   ·intro w'
    go_simp
    with_reducible rfl
   rotate_left
   ·simp only [Act.put, List.setIfInBounds_toArray, List.set_cons_zero, List.set_cons_succ, i64_w, i32_w]
    rfl
   refine pure_ (i := 38) (N := some 114) (v := ?_) (a' := ?_) (bA 51 549755813887) rfl rfl (any_of HT_.out (by kernel_rfl)) (fun _ _ _ h => h) (Or.inl ⟨by rfl, ?_⟩) ?_ ?_
   rotate_left
   ·intro w'
    go_simp
    with_reducible rfl
   rotate_left
   ·simp only [Act.put, List.setIfInBounds_toArray, List.set_cons_zero, List.set_cons_succ, i64_w, i32_w]
    rfl
   refine pure_ (i := 39) (N := some 115) (v := ?_) (a' := ?_) (bA 51 1099511627775) rfl rfl (any_of HT_.out (by kernel_rfl)) (fun _ _ _ h => h) (Or.inl ⟨by rfl, ?_⟩) ?_ ?_
   rotate_left
   ·intro w'
    go_simp
    with_reducible rfl
   rotate_left
   ·simp only [Act.put, List.setIfInBounds_toArray, List.set_cons_zero, List.set_cons_succ, i64_w, i32_w]
    rfl
   refine pure_ (i := 40) (N := some 116) (v := ?_) (a' := ?_) (bA 51 2199023255551) rfl rfl (any_of HT_.out (by kernel_rfl)) (fun _ _ _ h => h) (Or.inl ⟨by rfl, ?_⟩) ?_ ?_
   rotate_left
   ·intro w'
    go_simp
    with_reducible rfl
   rotate_left
   ·simp only [Act.put, List.setIfInBounds_toArray, List.set_cons_zero, List.set_cons_succ, i64_w, i32_w]
    rfl
   refine pure_ (i := 41) (N := some 117) (v := ?_) (a' := ?_) (bA 51 4398046511103) rfl rfl (any_of HT_.out (by kernel_rfl)) (fun _ _ _ h => h) (Or.inl ⟨by rfl, ?_⟩) ?_ ?_
   rotate_left
   ·intro w'
    go_simp
    with_reducible rfl
   rotate_left
   ·simp only [Act.put, List.setIfInBounds_toArray, List.set_cons_zero, List.set_cons_succ, i64_w, i32_w]
    rfl
   refine pure_ (i := 42) (N := some 118) (v := ?_) (a' := ?_) (bA 51 8796093022207) rfl rfl (any_of HT_.out (by kernel_rfl)) (fun _ _ _ h => h) (Or.inl ⟨by rfl, ?_⟩) ?_ ?_
   rotate_left
   ·intro w'
    go_simp
    with_reducible rfl
   rotate_left
   ·simp only [Act.put, List.setIfInBounds_toArray, List.set_cons_zero, List.set_cons_succ, i64_w, i32_w]
    rfl
   refine pure_ (i := 43) (N := some 119) (v := ?_) (a' := ?_) (bA 51 17592186044415) rfl rfl (any_of HT_.out (by kernel_rfl)) (fun _ _ _ h => h) (Or.inl ⟨by rfl, ?_⟩) ?_ ?_
   rotate_left
   ·intro w'
    go_simp
    with_reducible rfl
   rotate_left
   ·simp only [Act.put, List.setIfInBounds_toArray, List.set_cons_zero, List.set_cons_succ, i64_w, i32_w]
    rfl
   refine take_ (i := 44) (N := some 120) (v := ?_) (a' := ?_) (bA 51 35184372088831) rfl rfl (take_ofW HT_.out HW_.out (by kernel_rfl)) (fun _ _ _ h => h) (Or.inl ⟨by rfl, ?_⟩) hHeld ?_ ?_
   rotate_left
   ·rintro w' ⟨s0, s1, s2, s3, s4, s5, s6, s7, s8, s9, s10, s11, s12, s13, s14, s15, s16, s17, s18, s19, s20, s21, s22, s23, s24, s25, s26, s27, s28, s29, s30, s31, s32, s33, s34, s35, s36, s37, s38, s39, s40, s41, s42, s43, s44, s45, s46, s47, s48⟩
    go_simp
    with_reducible rfl
   rotate_left
   ·simp only [Act.put, List.setIfInBounds_toArray, List.set_cons_zero, List.set_cons_succ, i64_w, i32_w]
    rfl
   refine take_ (i := 46) (N := some 122) (v := ?_) (a' := ?_) (bA 51 105553116266495) rfl rfl (take_ofW HT_.out HW_.out (by kernel_rfl)) (fun _ _ _ h => h) (Or.inl ⟨by rfl, ?_⟩) hHeld ?_ ?_
   rotate_left
   ·rintro w' ⟨s0, s1, s2, s3, s4, s5, s6, s7, s8, s9, s10, s11, s12, s13, s14, s15, s16, s17, s18, s19, s20, s21, s22, s23, s24, s25, s26, s27, s28, s29, s30, s31, s32, s33, s34, s35, s36, s37, s38, s39, s40, s41, s42, s43, s44, s45, s46, s47, s48⟩
    go_simp
    with_reducible rfl
   rotate_left
   ·simp only [Act.put, List.setIfInBounds_toArray, List.set_cons_zero, List.set_cons_succ, i64_w, i32_w]
    rfl
   refine one_ (i := 45) (N := some 121) (bA 51 140737488355327) rfl rfl (one_of HT_.out (by kernel_rfl)) (by decide) (fun K hK => ?_)
   refine goes_ Try.func38 (by kernel_rfl) rfl #[.agg #[.int .i64 t589, .int .i64 t590, .int .i64 t591, .int .i64 t592, .int .i64 t593, .slice Ao12 t594.length co12, .slice Ao13 t597.length co13]] (by rfl) rfl rfl (by (try simp only [List.map_toArray, List.map_cons, List.map_nil]); first | done | rfl | (simp only [List.length_drop, List.length_take]; rfl)) ?_
   with_reducible refine (cyl_Right.calls kj4 t589 t590 t591 t592 t593 _ _ t594 _ _ t597 t695 _ ?side1 ?side2 ?side3 ?side4 A39.out).mono ?_
   (case side1 => repeat (first | exact (Kd.R_reads' HO_588005.out).2.2 | (with_reducible refine Kd.C_alloc ?_ _) | (with_reducible refine Kd.C_drewN ?_ _) | (with_reducible refine Kd.C_drew ?_)))
   (case side2 => exact (Kd.R_reads' HO_588005.out).2.1)
   (case side3 => repeat (first | exact (Kd.R_reads' HO_588006.out).2.2 | (with_reducible refine Kd.C_alloc ?_ _) | (with_reducible refine Kd.C_drewN ?_ _) | (with_reducible refine Kd.C_drew ?_)))
   (case side4 => exact (Kd.R_reads' HO_588006.out).2.1)
   rintro e w123 ⟨rfl, hb⟩
   refine ⟨_, rfl, ?_⟩
   have n0_ := Aside0.mk (Kd.V_below (vk HO_1) hb)
   have n1_ := Aside0.mk (Kd.R_below (rk HO_588005) hb)
   have n2_ := Aside0.mk (Kd.R_below (rk HO_588006) hb)
   have n3_ := Aside0.mk (Kd.R_below (rk HO607) hb)
   have n4_ := Aside0.mk (Kd.R_below (rk HO611) hb)
   have n5_ := Aside0.mk (Kd.R_below (rk HO620) hb)
   have n6_ := Aside0.mk (Kd.R_below (rk HO623) hb)
   have n7_ := Aside0.mk (Kd.R_below (rk HO633) hb)
   have n8_ := Aside0.mk (Kd.R_below (rk HO636) hb)
   have n9_ := Aside0.mk (Kd.R_below (rk HO646) hb)
   have n10_ := Aside0.mk (Kd.R_below (rk HO649) hb)
   have n11_ := Aside0.mk (Kd.R_below (rk HO659) hb)
   have n12_ := Aside0.mk (Kd.R_below (rk HO662) hb)
   have n13_ := Aside0.mk (Kd.R_below (rk HO672) hb)
   have n14_ := Aside0.mk (Kd.R_below (rk HO675) hb)
   have n15_ := Aside0.mk (Kd.R_below (rk HO685) hb)
   have n16_ := Aside0.mk (Kd.R_below (rk HO688) hb)
   have n17_ := Aside0.mk (bb BK587 hb)
   have n18_ := Aside0.mk (bb BK588 hb)
   have n19_ := Aside0.mk (bb BK625 hb)
   have n20_ := Aside0.mk (bb BK638 hb)
   have n21_ := Aside0.mk (bb BK651 hb)
   have n22_ := Aside0.mk (bb BK664 hb)
   have n23_ := Aside0.mk (bb BK677 hb)
   have n24_ := Aside0.mk (bb BK690 hb)
   have n25_ := Aside0.mk (below_step (bs HB (by simp [ag, GE587.out, GE588.out, GE625.out, GE638.out, GE651.out, GE664.out, GE677.out, GE690.out])) hb)
   clear HO_1
   clear HO_588005
   clear HO_588006
   clear HO607
   clear HO611
   clear HO620
   clear HO623
   clear HO633
   clear HO636
   clear HO646
   clear HO649
   clear HO659
   clear HO662
   clear HO672
   clear HO675
   clear HO685
   clear HO688
   clear BK587
   clear BK588
   clear BK625
   clear BK638
   clear BK651
   clear BK664
   clear BK677
   clear BK690
   clear HB
   have HO_1 := n0_
   have HO_588005 := n1_
   have HO_588006 := n2_
   have HO607 := n3_
   have HO611 := n4_
   have HO620 := n5_
   have HO623 := n6_
   have HO633 := n7_
   have HO636 := n8_
   have HO646 := n9_
   have HO649 := n10_
   have HO659 := n11_
   have HO662 := n12_
   have HO672 := n13_
   have HO675 := n14_
   have HO685 := n15_
   have HO688 := n16_
   have BK587 := n17_
   have BK588 := n18_
   have BK625 := n19_
   have BK638 := n20_
   have BK651 := n21_
   have BK664 := n22_
   have BK677 := n23_
   have BK690 := n24_
   have HB := n25_
   clear n0_ n1_ n2_ n3_ n4_ n5_ n6_ n7_ n8_ n9_ n10_ n11_ n12_ n13_ n14_ n15_ n16_ n17_ n18_ n19_ n20_ n21_ n22_ n23_ n24_ n25_
   (try clear hb)
   (try clear hb2)
   (try clear hk)
   (try clear hi)
   refine hK.out _ _ ⟨(blk_cell BK625.out 0).trans rfl, (blk_cell BK625.out 1).trans rfl, (blk_cell BK625.out 2).trans rfl, (blk_cell BK625.out 3).trans rfl, (blk_cell BK625.out 4).trans rfl, (blk_cell BK625.out 5).trans rfl, (blk_cell BK625.out 6).trans rfl, (blk_cell BK638.out 0).trans rfl, (blk_cell BK638.out 1).trans rfl, (blk_cell BK638.out 2).trans rfl, (blk_cell BK638.out 3).trans rfl, (blk_cell BK638.out 4).trans rfl, (blk_cell BK638.out 5).trans rfl, (blk_cell BK638.out 6).trans rfl, (blk_cell BK651.out 0).trans rfl, (blk_cell BK651.out 1).trans rfl, (blk_cell BK651.out 2).trans rfl, (blk_cell BK651.out 3).trans rfl, (blk_cell BK651.out 4).trans rfl, (blk_cell BK651.out 5).trans rfl, (blk_cell BK651.out 6).trans rfl, (blk_cell BK664.out 0).trans rfl, (blk_cell BK664.out 1).trans rfl, (blk_cell BK664.out 2).trans rfl, (blk_cell BK664.out 3).trans rfl, (blk_cell BK664.out 4).trans rfl, (blk_cell BK664.out 5).trans rfl, (blk_cell BK664.out 6).trans rfl, (blk_cell BK677.out 0).trans rfl, (blk_cell BK677.out 1).trans rfl, (blk_cell BK677.out 2).trans rfl, (blk_cell BK677.out 3).trans rfl, (blk_cell BK677.out 4).trans rfl, (blk_cell BK677.out 5).trans rfl, (blk_cell BK677.out 6).trans rfl, (blk_cell BK690.out 0).trans rfl, (blk_cell BK690.out 1).trans rfl, (blk_cell BK690.out 2).trans rfl, (blk_cell BK690.out 3).trans rfl, (blk_cell BK690.out 4).trans rfl, (blk_cell BK690.out 5).trans rfl, (blk_cell BK690.out 6).trans rfl, (blk_cell BK587.out 0).trans rfl, (blk_cell BK587.out 1).trans rfl, (blk_cell BK587.out 2).trans rfl, (blk_cell BK587.out 3).trans rfl, (blk_cell BK587.out 4).trans rfl, (blk_cell BK587.out 5).trans rfl, (blk_cell BK587.out 6).trans rfl⟩ (fun hHeld => ?_)
   clear hK K
   refine norm_ (a' := ?_) ?_ ?_
   rotate_left
   ·show Act.put _ (some 121) _ = _
    simp only [Act.put, List.setIfInBounds_toArray, List.set_cons_zero, List.set_cons_succ, i64_w, i32_w]
    rfl
   refine one_ (i := 47) (N := some 123) (bA 51 281474976710655) rfl rfl (one_of HT_.out (by kernel_rfl)) (by decide) (fun K hK => ?_)
   refine goes_ Try.func39 (by kernel_rfl) rfl #[.agg #[.int .i64 t589, .int .i64 t590, .int .i64 t591, .int .i64 t592, .int .i64 t593, .slice Ao12 t594.length co12, .slice Ao13 t597.length co13]] (by rfl) rfl rfl (by (try simp only [List.map_toArray, List.map_cons, List.map_nil]); first | done | rfl | (simp only [List.length_drop, List.length_take]; rfl)) ?_
   with_reducible refine (selvedgeref18_Right.calls kj4 t589 t590 t591 t592 t593 _ _ t594 _ _ t597 t696 _ ?side1 ?side2 ?side3 ?side4 A40.out).mono ?_
   (case side1 => repeat (first | exact (Kd.R_reads' HO_588005.out).2.2 | (with_reducible refine Kd.C_alloc ?_ _) | (with_reducible refine Kd.C_drewN ?_ _) | (with_reducible refine Kd.C_drew ?_)))
   (case side2 => exact (Kd.R_reads' HO_588005.out).2.1)
   (case side3 => repeat (first | exact (Kd.R_reads' HO_588006.out).2.2 | (with_reducible refine Kd.C_alloc ?_ _) | (with_reducible refine Kd.C_drewN ?_ _) | (with_reducible refine Kd.C_drew ?_)))
   (case side4 => exact (Kd.R_reads' HO_588006.out).2.1)
   rintro e w124 ⟨rfl, hb⟩
   refine ⟨_, rfl, ?_⟩
   have n0_ := Aside0.mk (Kd.V_below (vk HO_1) hb)
   have n1_ := Aside0.mk (Kd.R_below (rk HO_588005) hb)
   have n2_ := Aside0.mk (Kd.R_below (rk HO_588006) hb)
   have n3_ := Aside0.mk (Kd.R_below (rk HO607) hb)
   have n4_ := Aside0.mk (Kd.R_below (rk HO611) hb)
   have n5_ := Aside0.mk (Kd.R_below (rk HO620) hb)
   have n6_ := Aside0.mk (Kd.R_below (rk HO623) hb)
   have n7_ := Aside0.mk (Kd.R_below (rk HO633) hb)
   have n8_ := Aside0.mk (Kd.R_below (rk HO636) hb)
   have n9_ := Aside0.mk (Kd.R_below (rk HO646) hb)
   have n10_ := Aside0.mk (Kd.R_below (rk HO649) hb)
   have n11_ := Aside0.mk (Kd.R_below (rk HO659) hb)
   have n12_ := Aside0.mk (Kd.R_below (rk HO662) hb)
   have n13_ := Aside0.mk (Kd.R_below (rk HO672) hb)
   have n14_ := Aside0.mk (Kd.R_below (rk HO675) hb)
   have n15_ := Aside0.mk (Kd.R_below (rk HO685) hb)
   have n16_ := Aside0.mk (Kd.R_below (rk HO688) hb)
   have n17_ := Aside0.mk (bb BK587 hb)
   have n18_ := Aside0.mk (bb BK588 hb)
   have n19_ := Aside0.mk (bb BK625 hb)
   have n20_ := Aside0.mk (bb BK638 hb)
   have n21_ := Aside0.mk (bb BK651 hb)
   have n22_ := Aside0.mk (bb BK664 hb)
   have n23_ := Aside0.mk (bb BK677 hb)
   have n24_ := Aside0.mk (bb BK690 hb)
   have n25_ := Aside0.mk (below_step (bs HB (by simp [ag, GE587.out, GE588.out, GE625.out, GE638.out, GE651.out, GE664.out, GE677.out, GE690.out])) hb)
   clear HO_1
   clear HO_588005
   clear HO_588006
   clear HO607
   clear HO611
   clear HO620
   clear HO623
   clear HO633
   clear HO636
   clear HO646
   clear HO649
   clear HO659
   clear HO662
   clear HO672
   clear HO675
   clear HO685
   clear HO688
   clear BK587
   clear BK588
   clear BK625
   clear BK638
   clear BK651
   clear BK664
   clear BK677
   clear BK690
   clear HB
   have HO_1 := n0_
   have HO_588005 := n1_
   have HO_588006 := n2_
   have HO607 := n3_
   have HO611 := n4_
   have HO620 := n5_
   have HO623 := n6_
   have HO633 := n7_
   have HO636 := n8_
   have HO646 := n9_
   have HO649 := n10_
   have HO659 := n11_
   have HO662 := n12_
   have HO672 := n13_
   have HO675 := n14_
   have HO685 := n15_
   have HO688 := n16_
   have BK587 := n17_
   have BK588 := n18_
   have BK625 := n19_
   have BK638 := n20_
   have BK651 := n21_
   have BK664 := n22_
   have BK677 := n23_
   have BK690 := n24_
   have HB := n25_
   clear n0_ n1_ n2_ n3_ n4_ n5_ n6_ n7_ n8_ n9_ n10_ n11_ n12_ n13_ n14_ n15_ n16_ n17_ n18_ n19_ n20_ n21_ n22_ n23_ n24_ n25_
   (try clear hb)
   (try clear hb2)
   (try clear hk)
   (try clear hi)
   refine hK.out _ _ ⟨(blk_cell BK625.out 0).trans rfl, (blk_cell BK625.out 1).trans rfl, (blk_cell BK625.out 2).trans rfl, (blk_cell BK625.out 3).trans rfl, (blk_cell BK625.out 4).trans rfl, (blk_cell BK625.out 5).trans rfl, (blk_cell BK625.out 6).trans rfl, (blk_cell BK638.out 0).trans rfl, (blk_cell BK638.out 1).trans rfl, (blk_cell BK638.out 2).trans rfl, (blk_cell BK638.out 3).trans rfl, (blk_cell BK638.out 4).trans rfl, (blk_cell BK638.out 5).trans rfl, (blk_cell BK638.out 6).trans rfl, (blk_cell BK651.out 0).trans rfl, (blk_cell BK651.out 1).trans rfl, (blk_cell BK651.out 2).trans rfl, (blk_cell BK651.out 3).trans rfl, (blk_cell BK651.out 4).trans rfl, (blk_cell BK651.out 5).trans rfl, (blk_cell BK651.out 6).trans rfl, (blk_cell BK664.out 0).trans rfl, (blk_cell BK664.out 1).trans rfl, (blk_cell BK664.out 2).trans rfl, (blk_cell BK664.out 3).trans rfl, (blk_cell BK664.out 4).trans rfl, (blk_cell BK664.out 5).trans rfl, (blk_cell BK664.out 6).trans rfl, (blk_cell BK677.out 0).trans rfl, (blk_cell BK677.out 1).trans rfl, (blk_cell BK677.out 2).trans rfl, (blk_cell BK677.out 3).trans rfl, (blk_cell BK677.out 4).trans rfl, (blk_cell BK677.out 5).trans rfl, (blk_cell BK677.out 6).trans rfl, (blk_cell BK690.out 0).trans rfl, (blk_cell BK690.out 1).trans rfl, (blk_cell BK690.out 2).trans rfl, (blk_cell BK690.out 3).trans rfl, (blk_cell BK690.out 4).trans rfl, (blk_cell BK690.out 5).trans rfl, (blk_cell BK690.out 6).trans rfl, (blk_cell BK587.out 0).trans rfl, (blk_cell BK587.out 1).trans rfl, (blk_cell BK587.out 2).trans rfl, (blk_cell BK587.out 3).trans rfl, (blk_cell BK587.out 4).trans rfl, (blk_cell BK587.out 5).trans rfl, (blk_cell BK587.out 6).trans rfl⟩ (fun hHeld => ?_)
   clear hK K
   refine norm_ (a' := ?_) ?_ ?_
   rotate_left
   ·show Act.put _ (some 123) _ = _
    simp only [Act.put, List.setIfInBounds_toArray, List.set_cons_zero, List.set_cons_succ, i64_w, i32_w]
    rfl
   refine pure_ (i := 48) (N := some 124) (v := ?_) (a' := ?_) (bA 51 562949953421311) rfl rfl (any_of HT_.out (by kernel_rfl)) (fun _ _ _ h => h) (Or.inl ⟨by rfl, ?_⟩) ?_ ?_
   rotate_left
   ·intro w'
    go_simp
    with_reducible rfl
   rotate_left
   ·simp only [Act.put, List.setIfInBounds_toArray, List.set_cons_zero, List.set_cons_succ, i64_w, i32_w]
    rfl
   refine pure_ (i := 49) (N := some 125) (v := ?_) (a' := ?_) (bA 51 1125899906842623) rfl rfl (any_of HT_.out (by kernel_rfl)) (fun _ _ _ h => h) (Or.inl ⟨by rfl, ?_⟩) ?_ ?_
   rotate_left
   ·intro w'
    go_simp
    with_reducible rfl
   rotate_left
   ·simp only [Act.put, List.setIfInBounds_toArray, List.set_cons_zero, List.set_cons_succ, i64_w, i32_w]
    rfl
   refine pure_ (i := 50) (N := some 6) (v := ?_) (a' := ?_) (bA 51 2251799813685247) rfl rfl (any_of HT_.out (by kernel_rfl)) (fun _ _ _ h => h) (Or.inl ⟨by rfl, ?_⟩) ?_ ?_
   rotate_left
   ·intro w'
    go_simp
    with_reducible rfl
   rotate_left
   ·simp only [Act.put, List.setIfInBounds_toArray, List.set_cons_zero, List.set_cons_succ, i64_w, i32_w]
    rfl
   refine done_ (done_of HT_.out (by kernel_rfl)) ?_
   try go_wp2
   go_ret
   exact ⟨by first | rfl | (simp [errW_none, errW_some] <;> rfl) | (simp [*, errW_none, errW_some] <;> rfl), bs HB (by simp [ag, GE587.out, GE588.out, GE625.out, GE638.out, GE651.out, GE664.out, GE677.out, GE690.out])⟩
end Go.Proofs.Ytehjmmedghcndaa.PG
