import Derived.Test.YtehjmmedghcndaaPGx0
import Derived.Test.YtehjmmedghcndaaGB
import Derived.Test.YtehjmmedghcndaaCF
import Derived.Test.YtehjmmedghcndaaCG
import Derived.Test.YtehjmmedghcndaaCU
import Derived.Test.YtehjmmedghcndaaG2
import Derived.Test.YtehjmmedghcndaaCL
import Derived.Test.YtehjmmedghcndaaGA
import Derived.Test.YtehjmmedghcndaaLT
namespace Go.Proofs.Ytehjmmedghcndaa.PG
open Go.RowKit Go.Proofs.YtehjmmedghcndaaW.PrintWords Go.Proofs.YtehjmmedghcndaaW.PrintLast Go.Proofs.YtehjmmedghcndaaW.PrintMore
attribute [local go_sem] max2_int min2_int max_two min_two max_three min_three max_four min_four run_store_one   -- for this text's walks alone
set_option linter.unusedVariables false
set_option linter.unusedSimpArgs false
/-! ### selvedgelaw18_CylFound: function 9 -/
mutual
def selvedgelaw18_CylFound.j0 : Nat → List Int → Int → Bool → Option (Bool)
 | 0, _, _, _ => none
 | k + 1, x0, x1, x2 => (selvedgelaw18_made.f k x0 ([] : List Int)).bind fun t753 => (if (t753.length : Int) = 0 then ((selvedgelaw18_live.f).bind fun t756 => (if t756 = true then ((cyl_Spread.f k t753).bind fun t757 => (if t757 = 0 then (some true) else (none))) else (none))) else ((cyl_Free.f k t753).bind fun bt758 => (selvedgelaw18_CylFound.l0 k x1 x2 t753 bt758.1 bt758.2 0 (Int.tmod (wrap64 (x1)) (t753.length : Int)) 0)))
def selvedgelaw18_CylFound.l0 : Nat → Int → Bool → List (S42) → Int → Int → Int → Int → Int → Option (Bool)
 | 0, _, _, _, _, _, _, _, _ => none
 | k + 1, x1, x2, x7, x8, x9, x11, x761000, x761001 => if x11 < x8 then ((cyl_Take.f x7 x761000 x761001).bind fun bt761 => (if bt761.2.2.2 = 0 then (selvedgelaw18_CylFound.l0 k x1 x2 bt761.1 x8 x9 (wrap64 (x11 + 1)) bt761.2.1 bt761.2.2.1) else (none))) else (selvedgelaw18_CylFound.l1 k x1 x2 x7 x9 0 x761000 x761001)
def selvedgelaw18_CylFound.l1 : Nat → Int → Bool → List (S42) → Int → Int → Int → Int → Option (Bool)
 | 0, _, _, _, _, _, _, _ => none
 | k + 1, x1, x2, x7, x9, x15, x761000, x761001 => if x15 < x9 then (if (x7.length : Int) = 0 then (none) else ((cyl_File.f x7 (Int.tmod (wrap64 (x1)) (x7.length : Int))).bind fun bt768 => (if x2 = true then ((cyl_Dir.f k x7).bind fun bt775 => (if bt775.2.2.2 = 0 then (if bt775.2.1 < 0 then (none) else (if bt775.2.1 ≥ (x7.length : Int) then (none) else (selvedgelaw18_CylFound.l1 k x1 x2 bt775.1 x9 (wrap64 (x15 + 1)) x761000 x761001))) else (none))) else (if bt768.2.2.2 = 0 then (if bt768.2.1 < 0 then (none) else (if bt768.2.1 ≥ (x7.length : Int) then (none) else (selvedgelaw18_CylFound.l1 k x1 x2 bt768.1 x9 (wrap64 (x15 + 1)) x761000 x761001))) else (none))))) else ((cyl_Take.f x7 x761000 x761001).bind fun bt781 => ((cyl_File.f x7 0).bind fun bt788 => ((cyl_Dir.f k x7).bind fun bt795 => ((cyl_Free.f k x7).bind fun bt802 => ((selvedgelaw18_live.f).bind fun t804 => (if t804 = true then (if bt781.2.2.2 = 4 then (if bt788.2.2.2 = 4 then (if bt795.2.2.2 = 4 then (if bt802.1 = 0 then (if bt802.2 = 0 then ((cyl_Whole.f k x7).bind fun t805 => (if t805 = true then (some true) else (none))) else (none)) else (none)) else (none)) else (none)) else (none)) else (none)))))))
end
def selvedgelaw18_CylFound.f (k : Nat) (l0 : List Int) (a1 : Int) (a2 : Bool) : Option (Bool) := if (l0.length : Int) > 5 then (if 5 ≤ (l0.length : Int) then (selvedgelaw18_CylFound.j0 k (l0.take 5) a1 a2) else (none)) else (selvedgelaw18_CylFound.j0 k l0 a1 a2)
set_option maxHeartbeats 8000000 in
set_option maxRecDepth 100000 in
theorem selvedgelaw18_CylFound.calls (k : Nat) (P0_ : Nat → Prop) (A0 : Option Addr) (c0 : Nat) (l0 : List Int) (a1 : Int) (a2 : Bool) (r : Bool) (w : World) (hs0 : Kd.V (Kd.int .u8) 5 w w.heap.size (fun k_ => P0_ k_) (.slice A0 l0.length c0) l0) (h : selvedgelaw18_CylFound.f k l0 a1 a2 = some r) :
  Calls Try.prog 9 #[.slice A0 l0.length c0, .int .u16 a1, .bool a2] w fun e w' => e = .returned (.bool r) ∧ Below w.heap.size w w' := by
 have hu24 := Try.underlying24
 have HO0 := Aside0.mk (show Kd.V (Kd.int .u8) 5 w w.heap.size (fun k_ => (P0_ k_ ∨ w.heap.size ≤ k_)) (.slice A0 l0.length c0) l0 from Kd.V_mono hs0 (fun k_ hk => .inl hk))
 have HB := Aside0.mk (Below.refl w.heap.size w)
 have H : (if (l0.length : Int) > 5 then (if 5 ≤ (l0.length : Int) then (selvedgelaw18_CylFound.j0 k (l0.take 5) a1 a2) else (none)) else (selvedgelaw18_CylFound.j0 k l0 a1 a2)) = some r := h
 clear h
 have HC4 := Aside0.mk H
 clear H
 go_enter Try.func9, Try.ntmps9
 go_upto_if 32 with (fail)
 go_cut [0] (fun v0 wc => ∃ (kq : Nat) (x0_3 : List Int), Aside0 (selvedgelaw18_CylFound.j0 kq x0_3 a1 a2 = some r) ∧ Aside0 (kq ≤ k) ∧ Aside0 (Kd.V (Kd.int .u8) 5 wc w.heap.size (fun k_ => (P0_ k_ ∨ w.heap.size ≤ k_)) v0 x0_3) ∧ Aside0 (Below w.heap.size w wc))
 case first =>
  have H := HC4.out
  clear HC4
  by_cases c5 : (l0.length : Int) > 5
  ·rw [if_pos c5] at H
   have c5b0 : decide (5 < (l0.length : Int)) = true := decide_eq_true c5
   have c5b1 : decide (5 < l0.length) = true := decide_eq_true (by omega)
   clear c5
   (first | rw [c5b0] | (simp only [i64_w, i32_w]; rw [c5b0]) | skip)
   by_cases c6 : 5 ≤ (l0.length : Int)
   ·rw [if_pos c6] at H
    have c6b0 := eq_true c6
    have c6b1 : decide (5 ≤ (l0.length : Int)) = true := decide_eq_true c6
    clear c6
    obtain ⟨y748, hy748⟩ : ∃ y_ : List Int, y_ = (l0.take 5) := ⟨_, rfl⟩
    replace H : (selvedgelaw18_CylFound.j0 k y748 a1 a2) = some r := by first | (rw [hy748]; with_reducible exact H) | (have H2_ := (Option.bind_some _ _).symm.trans H; rw [hy748]; with_reducible exact H2_) | (have H2_ := (Option.bind_some _ _).symm.trans H; with_reducible exact H2_) | with_reducible exact H | (rw [hy748]; exact H) | exact H
    have Ny748 := Aside0.mk hy748
    clear hy748
    have H' := Aside0.mk H
    clear H
    have q7 : (5 : Int) ≤ ((l0.length : Int) : Int) := of_decide_eq_true (by assumption)
    obtain ⟨i07, hi07, _, hsz7, _⟩ := info_parts info5
    have hroom7 : l0.length ≤ c0 := (Kd.V_reads' HO0.out).2.1
    have hC7 : Kd.F (Kd.int .u8) _ _ A0 l0.length l0 := (Kd.V_at (base := w.heap.size) HO0.out).2.2
    have hcut7 := cut_to (P := Try.prog) 35 5 .i64 Try.underlying35 hi07 A0 l0.length c0 5 (by omega) q7 hroom7
    have hr7 := Kd.F_take (m := 5) hC7 (by omega)
    have hy7 : y748.length = (5 : Int).toNat := (by rw [Ny748.out, List.length_take]; omega)
    rw [← Ny748.out] at hr7
    rw [← hy7] at hcut7
    have HO752 := Aside0.mk (show Kd.V (Kd.int .u8) 5 _ w.heap.size _ (.slice A0 y748.length c0) y748 from Kd.V_mk (by omega) hr7)
    have HC752 := Aside0.mk (show y748.length ≤ c0 from by omega)
    clear hr7 hC7 hroom7 hi07 hsz7
    have KY7 := Aside0.mk hy7
    clear hy7
    replace q7 := eq_true q7
    go_wp2
    go_meet
    case rel => exact ⟨_, (y748), H', ⟨by first | omega | exact Nat.le_refl _⟩, ⟨vk HO752⟩, ⟨bl HB⟩⟩
   ·rw [if_neg c6] at H
    exact absurd H (by simp)
  ·rw [if_neg c5] at H
   have c5b0 : decide (5 < (l0.length : Int)) = false := decide_eq_false c5
   have c5b1 : decide (5 < l0.length) = false := decide_eq_false (by omega)
   clear c5
   (first | rw [c5b0] | (simp only [i64_w, i32_w]; rw [c5b0]) | skip)
   have H' := Aside0.mk H
   clear H
   go_wp2
   go_meet
   case rel => exact ⟨_, (l0), H', ⟨by first | omega | exact Nat.le_refl _⟩, ⟨vk HO0⟩, ⟨bl HB⟩⟩
 case rest =>
  clear HC4
  try clear p2
  try clear c5
  try clear c5b0
  try clear c5b1
  try clear c6
  try clear c6b0
  try clear c6b1
  try clear q7
  try clear q7
  obtain ⟨kq, x0_3, HA, HJ3, HO_0, HB⟩ := hcut
  cases kq with
  | zero => exact absurd HA.out (by simp [selvedgelaw18_CylFound.j0])
  | succ kj3 =>
   have H := HA.out
   clear HA
   simp only [selvedgelaw18_CylFound.j0] at H
   replace H := Option.bind_eq_some_iff.mp H
   obtain ⟨t753, A80, H⟩ := H
   try dsimp -implicitDefEqProofs -simprocs only at H
   have A8 := Aside0.mk A80
   clear A80
   by_cases c9 : (t753.length : Int) = 0
   ·rw [if_pos c9] at H
    have c9b0 : ((t753.length : Int) == 0) = true := beq_iff_eq.mpr c9
    have c9b1 : ((t753.length : Int) != 0) = false := bne_eq_false_iff_eq.mpr c9
    clear c9
    replace H := Option.bind_eq_some_iff.mp H
    obtain ⟨t756, A100, H⟩ := H
    try dsimp -implicitDefEqProofs -simprocs only at H
    have A10 := Aside0.mk A100
    clear A100
    by_cases c11 : t756 = true
    ·subst c11
     have H1 : ((cyl_Spread.f kj3 t753).bind fun t757 => (if t757 = 0 then (some true) else (none))) = some r := by rw [if_pos rfl] at H; exact H
     clear H
     have H := H1
     clear H1
     replace H := Option.bind_eq_some_iff.mp H
     obtain ⟨t757, A120, H⟩ := H
     try dsimp -implicitDefEqProofs -simprocs only at H
     have A12 := Aside0.mk A120
     clear A120
     by_cases c13 : t757 = 0
     ·rw [if_pos c13] at H
      have c13b0 : (t757 == 0) = true := beq_iff_eq.mpr c13
      have c13b1 : (t757 != 0) = false := bne_eq_false_iff_eq.mpr c13
      clear c13
      obtain rfl := Option.some.inj H
      obtain ⟨Ao14, co14, eo14⟩ := Kd.V_slice HO_0.out
      subst eo14
      go_wp2_with (first | ((with_reducible refine gate_callee (f := 21) rfl ?_); refine goesL_ (some 36) rfl rfl Try.func21 (by kernel_rfl) rfl #[.slice Ao14 x0_3.length co14, .slice none 0 0] rfl (by simp only [List.map_toArray, List.map_cons, List.map_nil]; first | done | rfl) ?_; (refine (selvedgelaw18_made.calls kj3 _ _ x0_3 _ _ ([] : List Int) t753 _ ?side1 ?side2 ?side3 ?side4 A8.out).mono ?_); (case side1 => repeat (first | exact (Kd.V_reads' HO_0.out).2.2 | (with_reducible refine Kd.C_alloc ?_ _) | (with_reducible refine Kd.C_drewN ?_ _) | (with_reducible refine Kd.C_drew ?_))); (case side2 => exact (Kd.V_reads' HO_0.out).2.1); (case side3 => exact Kd.C_nil _ _); (case side4 => exact Nat.le_refl _); rintro e w15 ⟨v754, rfl, ho0, hb⟩; refine ⟨_, rfl, ?_⟩; have hone_v754 := Kd.S_one ho0; replace HO_0 := Aside0.mk (Kd.V_elder' (vk HO_0) (Kd.S_base ho0) hb); have HO755 := Aside0.mk (Kd.S_lower (Kd.S_newM (M := fun k_ => (w.heap.size ≤ k_)) ho0 (below_size (bl HB)) (fun k_ h_ => h_)) (below_size (bl HB))); replace HB := Aside0.mk (below_step (bl HB) hb); clear ho0 hb; obtain ⟨Ao16, co16, eo16⟩ := Kd.S_slice HO755.out; subst eo16) | ((with_reducible refine gate_callee (f := 17) rfl ?_); refine goesL_ (some 40) rfl rfl Try.func17 (by kernel_rfl) rfl #[] rfl (by simp only [List.map_toArray, List.map_cons, List.map_nil]; first | done | rfl) ?_; (with_reducible refine (selvedgelaw18_live.calls  true _ A10.out).mono ?_); rintro e w17 ⟨rfl, hb⟩; refine ⟨_, rfl, ?_⟩; replace HO_0 := Aside0.mk (Kd.V_below (vk HO_0) hb); replace HO755 := Aside0.mk (Kd.S_below (sk HO755) hb); replace HB := Aside0.mk (below_step (bl HB) hb); (try clear hb); (try clear hb2); (try clear hk); (try clear hi)) | (go_at_call 26; (with_reducible refine (cyl_Spread.calls kj3 _ _ t753 t757 _ ?side1 ?side2 A12.out).mono ?_); (case side1 => repeat (first | exact (Kd.S_reads' HO755.out).2.2 | (with_reducible refine Kd.C_alloc ?_ _) | (with_reducible refine Kd.C_drewN ?_ _) | (with_reducible refine Kd.C_drew ?_))); (case side2 => exact (Kd.S_reads' HO755.out).2.1); rintro e w18 ⟨rfl, hb⟩; replace HO_0 := Aside0.mk (Kd.V_below (vk HO_0) hb); replace HO755 := Aside0.mk (Kd.S_below (sk HO755) hb); replace HB := Aside0.mk (below_step (bl HB) hb); (try clear hb); (try clear hb2); (try clear hk); (try clear hi)))
      go_ret
      exact ⟨by first | rfl | (simp [errW_none, errW_some] <;> rfl) | (simp [*, errW_none, errW_some] <;> rfl), bl HB⟩
     ·rw [if_neg c13] at H
      exact absurd H (by simp)
    ·replace c11 := Bool.eq_false_iff.mpr c11
     subst c11
     have H1 : (none) = some r := by rw [if_neg (show ¬ (false = true) by decide)] at H; exact H
     clear H
     have H := H1
     clear H1
     exact absurd H (by simp)
   ·rw [if_neg c9] at H
    have c9b0 : ((t753.length : Int) == 0) = false := beq_eq_false_iff_ne.mpr c9
    have c9b1 : ((t753.length : Int) != 0) = true := bne_iff_ne.mpr c9
    have c9b2 : ¬ (t753 = []) := fun h_ => c9 (by rw [h_]; rfl)
    replace H := Option.bind_eq_some_iff.mp H
    obtain ⟨⟨t758, t759⟩, A190, H⟩ := H
    try dsimp -implicitDefEqProofs -simprocs only at H
    have A19 := Aside0.mk A190
    clear A190
    have H' := Aside0.mk H
    clear H
    obtain ⟨Ao20, co20, eo20⟩ := Kd.V_slice HO_0.out
    subst eo20
    go_wp2_with (first | ((with_reducible refine gate_callee (f := 21) rfl ?_); refine goesL_ (some 36) rfl rfl Try.func21 (by kernel_rfl) rfl #[.slice Ao20 x0_3.length co20, .slice none 0 0] rfl (by simp only [List.map_toArray, List.map_cons, List.map_nil]; first | done | rfl) ?_; (refine (selvedgelaw18_made.calls kj3 _ _ x0_3 _ _ ([] : List Int) t753 _ ?side1 ?side2 ?side3 ?side4 A8.out).mono ?_); (case side1 => repeat (first | exact (Kd.V_reads' HO_0.out).2.2 | (with_reducible refine Kd.C_alloc ?_ _) | (with_reducible refine Kd.C_drewN ?_ _) | (with_reducible refine Kd.C_drew ?_))); (case side2 => exact (Kd.V_reads' HO_0.out).2.1); (case side3 => exact Kd.C_nil _ _); (case side4 => exact Nat.le_refl _); rintro e w21 ⟨v754, rfl, ho0, hb⟩; refine ⟨_, rfl, ?_⟩; have hone_v754 := Kd.S_one ho0; replace HO_0 := Aside0.mk (Kd.V_elder' (vk HO_0) (Kd.S_base ho0) hb); have HO755 := Aside0.mk (Kd.S_lower (Kd.S_newM (M := fun k_ => (w.heap.size ≤ k_)) ho0 (below_size (bl HB)) (fun k_ h_ => h_)) (below_size (bl HB))); replace HB := Aside0.mk (below_step (bl HB) hb); clear ho0 hb; obtain ⟨Ao22, co22, eo22⟩ := Kd.S_slice HO755.out; subst eo22) | ((with_reducible refine gate_callee (f := 22) rfl ?_); refine goesL_ (some 48) rfl rfl Try.func22 (by kernel_rfl) rfl #[.slice Ao22 t753.length co22] rfl (by simp only [List.map_toArray, List.map_cons, List.map_nil]; first | done | rfl) ?_; (with_reducible refine (cyl_Free.calls kj3 _ _ t753 t758 t759 _ ?side1 ?side2 A19.out).mono ?_); (case side1 => repeat (first | exact (Kd.S_reads' HO755.out).2.2 | (with_reducible refine Kd.C_alloc ?_ _) | (with_reducible refine Kd.C_drewN ?_ _) | (with_reducible refine Kd.C_drew ?_))); (case side2 => exact (Kd.S_reads' HO755.out).2.1); rintro e w23 ⟨rfl, hb⟩; refine ⟨_, rfl, ?_⟩; replace HO_0 := Aside0.mk (Kd.V_below (vk HO_0) hb); replace HO755 := Aside0.mk (Kd.S_below (sk HO755) hb); replace HB := Aside0.mk (below_step (bl HB) hb); (try clear hb); (try clear hb2); (try clear hk); (try clear hi)) | ((with_reducible refine gate_dst (N := 10) rfl ?_); (try (refine gate_guard (by rfl) ?_; dsimp only)); refine box_event rfl (N := 10) rfl (cs := #[.int .i64 0, .int .i64 0]) (t := 24) (by first | (go_simp; done) | (go_simp; rfl)) ?_; intro gb760 hg w24 hbox hb; replace HO_0 := Aside0.mk (Kd.V_below (Kd.V_elderB (vk HO_0) gb760 (Nat.le_of_eq hg.symm)) hb); replace HO755 := Aside0.mk (Kd.S_below (sk HO755) hb); have BK760 := Aside0.mk (hbox); have GW760 := gs HB hg; have GE760 := gs HB hg; replace HB := Aside0.mk (below_step (bl HB) hb); clear hb hbox hg; obtain ⟨hcz25_0, hcz25_1, hfz25_0, hfz25_1⟩ := cf2 BK760))
    go_loopg [7, 11] kj3 (fun kq v7 v11 w' => ∃ (x7_2 : List (S42)) (x11_2 : Int) (x761000_2 : Int) (x761001_2 : Int), v11 = .int .i64 x11_2 ∧ Aside0 (selvedgelaw18_CylFound.l0 kq a1 a2 x7_2 t758 t759 x11_2 x761000_2 x761001_2 = some r) ∧ Aside0 (kq ≤ kj3) ∧ Aside0 (Kd.S k42 42 w' w.heap.size (fun k_ => (w.heap.size ≤ k_)) v7 x7_2) ∧ Aside0 (w'.heap[gb760]? = some (.cells #[.int .i64 x761000_2, .int .i64 x761001_2] 24 (0, 0))) ∧ Aside0 (Below w.heap.size w w'))
    case atStart => exact ⟨(t753), (0), (Int.tmod (wrap64 (a1)) (t753.length : Int)), (0), (by first | rfl | (simp; done) | (simp [*]; done)), H', ⟨Nat.le_refl _⟩, ⟨by (with_reducible repeat (first | apply Kd.S_alloc | apply Kd.S_drewN | apply Kd.S_drew)); exact Kd.S_mono (Kd.S_far (p := ⟨gb760, 1, none⟩) (Kd.S_far (p := ⟨gb760, 0, none⟩) (Kd.S_types HO755.out BK760.out (by decide)) (fun _ hk => hk.2) (.int .i64 (Int.tmod (wrap64 (a1)) (t753.length : Int)))) (fun _ hk => hk.2) (.int .i64 0)) (fun _ hk => hk.1.1)⟩, ⟨by (with_reducible repeat (first | refine blk_drewN ?_ _ | refine blk_drew ?_ | refine blk_alloc ?_ _)); refine blk_put (cs := #[.int .i64 (Int.tmod (wrap64 (a1)) (t753.length : Int)), .int .i64 0]) ?_ 1 _ rfl; (with_reducible repeat (first | refine blk_drewN ?_ _ | refine blk_drew ?_ | refine blk_alloc ?_ _)); refine blk_put (cs := #[.int .i64 0, .int .i64 0]) ?_ 0 _ rfl; (with_reducible repeat (first | refine blk_drewN ?_ _ | refine blk_drew ?_ | refine blk_alloc ?_ _)); exact BK760.out⟩, ⟨bs HB (by simp [ag, GE760.out])⟩⟩
    case round =>
     clear H'
     try clear c1
     try clear c2
     try clear p2
     try clear c5
     try clear c5b0
     try clear c5b1
     try clear c6
     try clear c6b0
     try clear c6b1
     try clear p6
     try clear q7
     try clear c9
     try clear c9b0
     try clear c9b1
     try clear c9b2
     try clear c11
     try clear c13
     try clear c13b0
     try clear c13b1
     try clear c17
     try clear c21
     try clear c22
     try clear hcz25_0
     try clear hcz25_1
     try clear hfz25_0
     try clear hfz25_1
     try clear p2
     try clear q7
     obtain ⟨x7_2, x11_2, x761000_2, x761001_2, rfl, HA, HK2, HO_7, BK760, HB⟩ := hrel
     cases gk with
     | zero => exact absurd HA.out (by simp [selvedgelaw18_CylFound.l0])
     | succ k2 =>
      have H := HA.out
      clear HA
      simp only [selvedgelaw18_CylFound.l0] at H
      by_cases c26 : x11_2 < t758
      ·rw [if_pos c26] at H
       have c26b0 : decide (x11_2 < t758) = true := decide_eq_true c26
       clear c26
       replace H := Option.bind_eq_some_iff.mp H
       obtain ⟨⟨t761, t764, t765, t766⟩, A270, H⟩ := H
       try dsimp -implicitDefEqProofs -simprocs only at H
       have A27 := Aside0.mk A270
       clear A270
       by_cases c28 : t766 = 0
       ·rw [if_pos c28] at H
        have c28b0 : (t766 == 0) = true := beq_iff_eq.mpr c28
        have c28b1 : (t766 != 0) = false := bne_eq_false_iff_eq.mpr c28
        clear c28
        have H' := Aside0.mk H
        clear H
        obtain ⟨hcz29_0, hcz29_1, hfz29_0, hfz29_1⟩ := cf2 BK760
        obtain ⟨Ao30, co30, eo30⟩ := Kd.S_slice HO_7.out
        subst eo30
        try go_wp2_with (first | ((with_reducible refine gate_callee (f := 13) rfl ?_); refine goesL_ (some 65) rfl rfl Try.func13 (by kernel_rfl) rfl #[.slice Ao30 x7_2.length co30, .agg #[.int .i64 x761000_2, .int .i64 x761001_2]] rfl (by (try simp only [List.map_toArray, List.map_cons, List.map_nil]); first | done | rfl | (simp only [List.length_drop, List.length_take]; rfl)) ?_; (with_reducible refine (cyl_Take.calls _ _ x7_2 x761000_2 x761001_2 t761 t764 t765 t766 _ ?side1 ?side2 A27.out).mono ?_); (case side1 => repeat (first | exact (Kd.S_reads' HO_7.out).2.2 | (with_reducible refine Kd.C_alloc ?_ _) | (with_reducible refine Kd.C_drewN ?_ _) | (with_reducible refine Kd.C_drew ?_))); (case side2 => exact (Kd.S_reads' HO_7.out).2.1); rintro e w31 ⟨v762, rfl, ho0, hb⟩; refine ⟨_, rfl, ?_⟩; have hone_v762 := Kd.S_one ho0; have HO763 := Aside0.mk (Kd.S_lower (Kd.S_new' (Kd.S_newM (M := fun k_ => (w.heap.size ≤ k_)) ho0 (below_size (bs HB (by simp [ag, GE760.out]))) (fun k_ h_ => h_)) (Kd.S_lt (sk HO_7))) (below_size (bs HB (by simp [ag, GE760.out])))); replace HO_7 := Aside0.mk (Kd.S_elder' (sk HO_7) (Kd.S_base ho0) hb); replace BK760 := Aside0.mk (bb BK760 hb); replace HB := Aside0.mk (below_step (bs HB (by simp [ag, GE760.out])) hb); clear ho0 hb) | ((with_reducible refine gate_dst (N := 13) rfl ?_); (try (refine gate_guard (by rfl) ?_; dsimp only)); refine box_event rfl (N := 13) rfl (cs := #[.int .i64 0, .int .i64 0]) (t := 24) (by first | (go_simp; done) | (go_simp; rfl)) ?_; intro gb767 hg w32 hbox hb; replace HO_7 := Aside0.mk (Kd.S_below (sk HO_7) hb); replace HO763 := Aside0.mk (Kd.S_below (sk HO763) hb); have BK767 := Aside0.mk (hbox); have GW767 := gl HB hg (by simp [ag, GE760.out]); have GE767 := gl HB hg (by simp [ag, GE760.out]); replace HB := Aside0.mk (below_step (bs HB (by simp [ag, GE760.out])) hb); have NB760_767 := nl BK760 hg; have NB767_760 := nt BK760 hg; replace BK760 := Aside0.mk (bb BK760 hb); clear hb hbox hg; have hnb33 := NB767_760.out; have hnc33 := NB760_767.out; obtain ⟨hcz34_0, hcz34_1, hfz34_0, hfz34_1⟩ := cf2 BK767))
        have n0_ : Aside0 (Kd.S k42 42 ((w32.setCell ⟨gb767, 0, none⟩ (.int .i64 t764)).setCell ⟨gb767, 1, none⟩ (.int .i64 t765)) w.heap.size (fun k_ => (w.heap.size ≤ k_) ∧ some k_ ≠ (v762 : Value).ownBlock) (.slice Ao30 x7_2.length co30) x7_2) := ⟨by (with_reducible repeat (first | apply Kd.S_alloc | apply Kd.S_drewN | apply Kd.S_drew)); exact Kd.S_mono (Kd.S_far (p := ⟨gb767, 1, none⟩) (Kd.S_far (p := ⟨gb767, 0, none⟩) (Kd.S_types HO_7.out BK767.out (by decide)) (fun _ hk => hk.2) (.int .i64 t764)) (fun _ hk => hk.2) (.int .i64 t765)) (fun _ hk => ⟨hk.1.1, hk.1.2⟩)⟩
        have n1_ : Aside0 (Kd.S k42 42 ((w32.setCell ⟨gb767, 0, none⟩ (.int .i64 t764)).setCell ⟨gb767, 1, none⟩ (.int .i64 t765)) w.heap.size (fun k_ => (w.heap.size ≤ k_) ∧ some k_ ≠ (.slice Ao30 x7_2.length co30 : Value).ownBlock) v762 t761) := ⟨by (with_reducible repeat (first | apply Kd.S_alloc | apply Kd.S_drewN | apply Kd.S_drew)); exact Kd.S_mono (Kd.S_far (p := ⟨gb767, 1, none⟩) (Kd.S_far (p := ⟨gb767, 0, none⟩) (Kd.S_types HO763.out BK767.out (by decide)) (fun _ hk => hk.2) (.int .i64 t764)) (fun _ hk => hk.2) (.int .i64 t765)) (fun _ hk => ⟨hk.1.1.1, hk.1.2⟩)⟩
        have n2_ : Aside0 (((w32.setCell ⟨gb767, 0, none⟩ (.int .i64 t764)).setCell ⟨gb767, 1, none⟩ (.int .i64 t765)).heap[gb760]? = some (.cells #[.int .i64 x761000_2, .int .i64 x761001_2] 24 (0, 0))) := ⟨by (with_reducible repeat (first | refine blk_drewN ?_ _ | refine blk_drew ?_ | refine blk_alloc ?_ _)); refine blk_far ?_ NB760_767.out _; (with_reducible repeat (first | refine blk_drewN ?_ _ | refine blk_drew ?_ | refine blk_alloc ?_ _)); refine blk_far ?_ NB760_767.out _; (with_reducible repeat (first | refine blk_drewN ?_ _ | refine blk_drew ?_ | refine blk_alloc ?_ _)); exact BK760.out⟩
        have n3_ : Aside0 (((w32.setCell ⟨gb767, 0, none⟩ (.int .i64 t764)).setCell ⟨gb767, 1, none⟩ (.int .i64 t765)).heap[gb767]? = some (.cells #[.int .i64 t764, .int .i64 t765] 24 (0, 0))) := ⟨by (with_reducible repeat (first | refine blk_drewN ?_ _ | refine blk_drew ?_ | refine blk_alloc ?_ _)); refine blk_put (cs := #[.int .i64 t764, .int .i64 0]) ?_ 1 _ rfl; (with_reducible repeat (first | refine blk_drewN ?_ _ | refine blk_drew ?_ | refine blk_alloc ?_ _)); refine blk_put (cs := #[.int .i64 0, .int .i64 0]) ?_ 0 _ rfl; (with_reducible repeat (first | refine blk_drewN ?_ _ | refine blk_drew ?_ | refine blk_alloc ?_ _)); exact BK767.out⟩
        have n4_ : Aside0 (Below w.heap.size w ((w32.setCell ⟨gb767, 0, none⟩ (.int .i64 t764)).setCell ⟨gb767, 1, none⟩ (.int .i64 t765))) := ⟨bs HB (by simp [ag, GE760.out, GE767.out])⟩
        (try clear HO_7)
        (try clear HO763)
        (try clear BK760)
        (try clear BK767)
        (try clear HB)
        generalize ((w32.setCell ⟨gb767, 0, none⟩ (.int .i64 t764)).setCell ⟨gb767, 1, none⟩ (.int .i64 t765)) = w35 at n0_ n1_ n2_ n3_ n4_ ⊢
        have HO_7 := n0_
        have HO763 := n1_
        have BK760 := n2_
        have BK767 := n3_
        have HB := n4_
        clear n0_ n1_ n2_ n3_ n4_
        have n0_ := Aside0.mk (Kd.S_drew HO_7.out)
        have n1_ := Aside0.mk (Kd.S_drew HO763.out)
        have n2_ := Aside0.mk (blk_drew BK760.out)
        have n3_ := Aside0.mk (blk_drew BK767.out)
        have n4_ := Aside0.mk (below_drew1 HB.out)
        clear HO_7
        clear HO763
        clear BK760
        clear BK767
        clear HB
        have HO_7 := n0_
        have HO763 := n1_
        have BK760 := n2_
        have BK767 := n3_
        have HB := n4_
        clear n0_ n1_ n2_ n3_ n4_
        refine start_ (n := 4) (S := fun w' => w'.cell? ⟨gb767, 0, none⟩ = some (.int .i64 t764) ∧ w'.cell? ⟨gb767, 1, none⟩ = some (.int .i64 t765)) (ds := []) #[false, false, false, false] (by kernel_rfl) rfl rfl ⟨(blk_cell BK767.out 0).trans rfl, (blk_cell BK767.out 1).trans rfl⟩ (fun hHeld => ?_)
        generalize w35.drew = w36 at HO_7 HO763 BK760 BK767 HB hHeld ⊢
        refine pure_ (i := 0) (N := some 71) (v := ?_) (a' := ?_) #[true, false, false, false] rfl rfl (by kernel_rfl) (fun _ _ _ h => h) (Or.inl ⟨by rfl, ?_⟩) ?_ ?_
        rotate_left
        ·intro w'
         go_simp
         with_reducible rfl
        rotate_left
        ·simp only [Act.put, List.setIfInBounds_toArray, List.set_cons_zero, List.set_cons_succ, i64_w, i32_w]
         rfl
        refine pure_ (i := 2) (N := some 7) (v := ?_) (a' := ?_) #[true, false, true, false] rfl rfl (by kernel_rfl) (fun _ _ _ h => h) (Or.inl ⟨by rfl, ?_⟩) ?_ ?_
        rotate_left
        ·intro w'
         go_simp
         with_reducible rfl
        rotate_left
        ·simp only [Act.put, List.setIfInBounds_toArray, List.set_cons_zero, List.set_cons_succ, i64_w, i32_w]
         rfl
        refine take_ (i := 1) (N := some 72) (v := ?_) (a' := ?_) #[true, true, true, false] rfl rfl (by kernel_rfl) (fun _ _ _ h => h) (Or.inl ⟨by rfl, ?_⟩) hHeld ?_ ?_
        rotate_left
        ·rintro w' ⟨s0, s1⟩
         go_simp
         with_reducible rfl
        rotate_left
        ·simp only [Act.put, List.setIfInBounds_toArray, List.set_cons_zero, List.set_cons_succ, i64_w, i32_w]
         rfl
        refine one_ (i := 3) (N := none) #[true, true, true, true] rfl rfl (by kernel_rfl) (by decide) (fun K hK => ?_)
        have hs37 : w36.cell? ⟨gb760, 0, none⟩ = some (.int .i64 x761000_2) := (blk_cell BK760.out 0).trans rfl
        have hfs37 := blk_frozen BK760.out 0
        have hns37_1 := NB767_760.out
        have hms37_1 := NB760_767.out
        have hs38 : w36.cell? ⟨gb760, 1, none⟩ = some (.int .i64 x761001_2) := (blk_cell BK760.out 1).trans rfl
        have hfs38 := blk_frozen BK760.out 1
        have hns38_1 := NB767_760.out
        have hms38_1 := NB760_767.out
        refine skip_ (w1 := ?_) (by rfl) rfl ?_ ?_
        rotate_left
        ·go_simp
         rfl
        refine hK.out _ _ ⟨((cell_far (p := ⟨gb760, _, none⟩) NB767_760.out _).trans (((cell_far (p := ⟨gb760, _, none⟩) NB767_760.out _).trans (hHeld.1)))), ((cell_far (p := ⟨gb760, _, none⟩) NB767_760.out _).trans (((cell_far (p := ⟨gb760, _, none⟩) NB767_760.out _).trans (hHeld.2))))⟩ (fun hHeld => ?_)
        clear hK K
        refine done_ (by kernel_rfl) ?_
        try go_wp2
        go_roundg k2
        case measure => have := HJ3.out; have := HK2.out; omega
        case rel => exact ⟨(t761), (wrap64 (x11_2 + 1)), (t764), (t765), (by first | rfl | (simp; done) | (simp [*]; done)), H', ⟨by have := HJ3.out; have := HK2.out; omega⟩, ⟨by (with_reducible repeat (first | apply Kd.S_alloc | apply Kd.S_drewN | apply Kd.S_drew)); exact Kd.S_mono (Kd.S_far (p := ⟨gb760, 1, none⟩) (Kd.S_far (p := ⟨gb760, 0, none⟩) (Kd.S_types HO763.out BK760.out (by decide)) (fun _ hk => hk.2) (.int .i64 t764)) (fun _ hk => hk.2) (.int .i64 t765)) (fun _ hk => hk.1.1)⟩, ⟨by (with_reducible repeat (first | refine blk_drewN ?_ _ | refine blk_drew ?_ | refine blk_alloc ?_ _)); refine blk_put (cs := #[.int .i64 t764, .int .i64 x761001_2]) ?_ 1 _ rfl; (with_reducible repeat (first | refine blk_drewN ?_ _ | refine blk_drew ?_ | refine blk_alloc ?_ _)); refine blk_put (cs := #[.int .i64 x761000_2, .int .i64 x761001_2]) ?_ 0 _ rfl; (with_reducible repeat (first | refine blk_drewN ?_ _ | refine blk_drew ?_ | refine blk_alloc ?_ _)); exact BK760.out⟩, ⟨bs HB (by simp [ag, GE760.out, GE767.out])⟩⟩
       ·rw [if_neg c28] at H
        exact absurd H (by simp)
      ·rw [if_neg c26] at H
       have c26b0 : decide (x11_2 < t758) = false := decide_eq_false c26
       clear c26
       have H' := Aside0.mk H
       clear H
       go_wp2
       go_loopg [7, 15] k2 (fun kq v7 v15 w' => ∃ (x7_3 : List (S42)) (x15_3 : Int), v15 = .int .i64 x15_3 ∧ Aside0 (selvedgelaw18_CylFound.l1 kq a1 a2 x7_3 t759 x15_3 x761000_2 x761001_2 = some r) ∧ Aside0 (kq ≤ k2) ∧ Aside0 (Kd.S k42 42 w' w.heap.size (fun k_ => (w.heap.size ≤ k_)) v7 x7_3) ∧ Aside0 (w'.heap[gb760]? = some (.cells #[.int .i64 x761000_2, .int .i64 x761001_2] 24 (0, 0))) ∧ Aside0 (Below w.heap.size w w'))
       case atStart => exact ⟨(x7_2), (0), (by first | rfl | (simp; done) | (simp [*]; done)), H', ⟨Nat.le_refl _⟩, ⟨sk HO_7⟩, ⟨bk BK760⟩, ⟨bs HB (by simp [ag, GE760.out])⟩⟩
       case round =>
        clear H'
        try clear c1
        try clear c2
        try clear p2
        try clear c3
        try clear c5
        try clear c5b0
        try clear c5b1
        try clear c6
        try clear c6b0
        try clear c6b1
        try clear p6
        try clear q7
        try clear c9
        try clear c9b0
        try clear c9b1
        try clear c9b2
        try clear c11
        try clear c13
        try clear c13b0
        try clear c13b1
        try clear c17
        try clear c21
        try clear c22
        try clear c26
        try clear c26b0
        try clear c28
        try clear c28b0
        try clear c28b1
        try clear c33
        try clear hcz25_0
        try clear hcz25_1
        try clear hcz29_0
        try clear hcz29_1
        try clear hcz34_0
        try clear hcz34_1
        try clear hfz25_0
        try clear hfz25_1
        try clear hfz29_0
        try clear hfz29_1
        try clear hfz34_0
        try clear hfz34_1
        try clear p2
        try clear p6
        try clear q7
        obtain ⟨x7_3, x15_3, rfl, HA, HK3, HO_7, BK760, HB⟩ := hrel
        cases gk with
        | zero => exact absurd HA.out (by simp [selvedgelaw18_CylFound.l1])
        | succ k3 =>
         have H := HA.out
         clear HA
         simp only [selvedgelaw18_CylFound.l1] at H
         by_cases c39 : x15_3 < t759
         ·rw [if_pos c39] at H
          have c39b0 : decide (x15_3 < t759) = true := decide_eq_true c39
          clear c39
          by_cases c40 : (x7_3.length : Int) = 0
          ·rw [if_pos c40] at H
           exact absurd H (by simp)
          ·rw [if_neg c40] at H
           have c40b0 : ((x7_3.length : Int) == 0) = false := beq_eq_false_iff_ne.mpr c40
           have c40b1 : ((x7_3.length : Int) != 0) = true := bne_iff_ne.mpr c40
           have c40b2 : ¬ (x7_3 = []) := fun h_ => c40 (by rw [h_]; rfl)
           replace H := Option.bind_eq_some_iff.mp H
           obtain ⟨⟨t768, t771, t772, t773⟩, A410, H⟩ := H
           try dsimp -implicitDefEqProofs -simprocs only at H
           have A41 := Aside0.mk A410
           clear A410
           by_cases c42 : a2 = true
           ·subst c42
            have H1 : ((cyl_Dir.f k3 x7_3).bind fun bt775 => (if bt775.2.2.2 = 0 then (if bt775.2.1 < 0 then (none) else (if bt775.2.1 ≥ (x7_3.length : Int) then (none) else (selvedgelaw18_CylFound.l1 k3 a1 true bt775.1 t759 (wrap64 (x15_3 + 1)) x761000_2 x761001_2))) else (none))) = some r := by rw [if_pos rfl] at H; exact H
            clear H
            have H := H1
            clear H1
            replace H := Option.bind_eq_some_iff.mp H
            obtain ⟨⟨t775, t778, t779, t780⟩, A430, H⟩ := H
            try dsimp -implicitDefEqProofs -simprocs only at H
            have A43 := Aside0.mk A430
            clear A430
            by_cases c44 : t780 = 0
            ·rw [if_pos c44] at H
             have c44b0 : (t780 == 0) = true := beq_iff_eq.mpr c44
             have c44b1 : (t780 != 0) = false := bne_eq_false_iff_eq.mpr c44
             clear c44
             by_cases c45 : t778 < 0
             ·rw [if_pos c45] at H
              exact absurd H (by simp)
             ·rw [if_neg c45] at H
              have c45b0 : decide (t778 < 0) = false := decide_eq_false c45
              clear c45
              by_cases c46 : t778 ≥ (x7_3.length : Int)
              ·rw [if_pos c46] at H
               exact absurd H (by simp)
              ·rw [if_neg c46] at H
               have c46b0 : decide ((x7_3.length : Int) ≤ t778) = false := decide_eq_false c46
               clear c46
               have H' := Aside0.mk H
               clear H
               obtain ⟨Ao47, co47, eo47⟩ := Kd.S_slice HO_7.out
               subst eo47
               go_wp2_with (first | ((with_reducible refine gate_callee (f := 40) rfl ?_); refine goesL_ (some 85) rfl rfl Try.func40 (by kernel_rfl) rfl #[.slice Ao47 x7_3.length co47, .int .i64 (Int.tmod (wrap64 (a1)) (x7_3.length : Int))] rfl (by simp only [List.map_toArray, List.map_cons, List.map_nil]; first | done | rfl) ?_; (with_reducible refine (cyl_File.calls _ _ x7_3 (Int.tmod (wrap64 (a1)) (x7_3.length : Int)) t768 t771 t772 t773 _ ?side1 ?side2 A41.out).mono ?_); (case side1 => repeat (first | exact (Kd.S_reads' HO_7.out).2.2 | (with_reducible refine Kd.C_alloc ?_ _) | (with_reducible refine Kd.C_drewN ?_ _) | (with_reducible refine Kd.C_drew ?_))); (case side2 => exact (Kd.S_reads' HO_7.out).2.1); rintro e w48 ⟨v769, rfl, ho0, hb⟩; refine ⟨_, rfl, ?_⟩; have hone_v769 := Kd.S_one ho0; have HO770 := Aside0.mk (Kd.S_lower (Kd.S_new' (Kd.S_newM (M := fun k_ => (w.heap.size ≤ k_)) ho0 (below_size (bs HB (by simp [ag, GE760.out]))) (fun k_ h_ => h_)) (Kd.S_lt (sk HO_7))) (below_size (bs HB (by simp [ag, GE760.out])))); replace HO_7 := Aside0.mk (Kd.S_elder' (sk HO_7) (Kd.S_base ho0) hb); replace BK760 := Aside0.mk (bb BK760 hb); replace HB := Aside0.mk (below_step (bs HB (by simp [ag, GE760.out])) hb); clear ho0 hb) | ((with_reducible refine gate_dst (N := 17) rfl ?_); (try (refine gate_guard (by rfl) ?_; dsimp only)); refine box_event rfl (N := 17) rfl (cs := #[.int .i64 0, .int .i64 0]) (t := 24) (by first | (go_simp; done) | (go_simp; rfl)) ?_; intro gb774 hg w49 hbox hb; replace HO_7 := Aside0.mk (Kd.S_below (sk HO_7) hb); replace HO770 := Aside0.mk (Kd.S_below (sk HO770) hb); have BK774 := Aside0.mk (hbox); have GW774 := gl HB hg (by simp [ag, GE760.out]); have GE774 := gl HB hg (by simp [ag, GE760.out]); replace HB := Aside0.mk (below_step (bs HB (by simp [ag, GE760.out])) hb); have NB760_774 := nl BK760 hg; have NB774_760 := nt BK760 hg; replace BK760 := Aside0.mk (bb BK760 hb); clear hb hbox hg; have hnb50 := NB774_760.out; have hnc50 := NB760_774.out; obtain ⟨hcz51_0, hcz51_1, hfz51_0, hfz51_1⟩ := cf2 BK774) | ((with_reducible refine gate_callee (f := 23) rfl ?_); refine goesL_ (some 92) rfl rfl Try.func23 (by kernel_rfl) rfl #[.slice Ao47 x7_3.length co47] rfl (by simp only [List.map_toArray, List.map_cons, List.map_nil]; first | done | rfl) ?_; (with_reducible refine (cyl_Dir.calls k3 _ _ x7_3 t775 t778 t779 t780 _ ?side1 ?side2 A43.out).mono ?_); (case side1 => refine (Kd.S_reads' (e := 42) (base := w.heap.size) (ok := fun k_ => ((w.heap.size ≤ k_) ∧ some k_ ≠ (v769 : Value).ownBlock)) (n := x7_3.length) (c := co47) ?_).2.2; exact (by (with_reducible repeat (first | apply Kd.S_alloc | apply Kd.S_drewN | apply Kd.S_drew)); exact (Kd.S_mono (Kd.S_far (p := ⟨gb774, 1, none⟩) (Kd.S_far (p := ⟨gb774, 0, none⟩) (Kd.S_types HO_7.out BK774.out (by decide)) (fun _ hk => hk.2) (.int .i64 t771)) (fun _ hk => hk.2) (.int .i64 t772)) (fun _ h_ => h_.1)))); (case side2 => exact (Kd.S_reads' HO_7.out).2.1); rintro e w52 ⟨v776, rfl, ho0, hb⟩; refine ⟨_, rfl, ?_⟩; have hone_v776 := Kd.S_one ho0; have HO777 := Aside0.mk (Kd.S_lower (Kd.S_new' (Kd.S_new' (Kd.S_newM (M := fun k_ => (w.heap.size ≤ k_)) ho0 (below_size (bs HB (by simp [ag, GE760.out, GE774.out]))) (fun k_ h_ => h_)) (Kd.S_lt (by (with_reducible repeat (first | apply Kd.S_alloc | apply Kd.S_drewN | apply Kd.S_drew)); exact (Kd.S_mono (Kd.S_far (p := ⟨gb774, 1, none⟩) (Kd.S_far (p := ⟨gb774, 0, none⟩) (Kd.S_types HO_7.out BK774.out (by decide)) (fun _ hk => hk.2) (.int .i64 t771)) (fun _ hk => hk.2) (.int .i64 t772)) (fun _ h_ => h_.1))))) (Kd.S_lt (by (with_reducible repeat (first | apply Kd.S_alloc | apply Kd.S_drewN | apply Kd.S_drew)); exact (Kd.S_mono (Kd.S_far (p := ⟨gb774, 1, none⟩) (Kd.S_far (p := ⟨gb774, 0, none⟩) (Kd.S_types HO770.out BK774.out (by decide)) (fun _ hk => hk.2) (.int .i64 t771)) (fun _ hk => hk.2) (.int .i64 t772)) (fun _ h_ => h_.1))))) (below_size (bs HB (by simp [ag, GE760.out, GE774.out])))); replace HO_7 := Aside0.mk (Kd.S_elder' (by (with_reducible repeat (first | apply Kd.S_alloc | apply Kd.S_drewN | apply Kd.S_drew)); exact (Kd.S_mono (Kd.S_far (p := ⟨gb774, 1, none⟩) (Kd.S_far (p := ⟨gb774, 0, none⟩) (Kd.S_types HO_7.out BK774.out (by decide)) (fun _ hk => hk.2) (.int .i64 t771)) (fun _ hk => hk.2) (.int .i64 t772)) (fun _ h_ => h_.1))) (Kd.S_base ho0) hb); replace HO770 := Aside0.mk (Kd.S_elder' (by (with_reducible repeat (first | apply Kd.S_alloc | apply Kd.S_drewN | apply Kd.S_drew)); exact (Kd.S_mono (Kd.S_far (p := ⟨gb774, 1, none⟩) (Kd.S_far (p := ⟨gb774, 0, none⟩) (Kd.S_types HO770.out BK774.out (by decide)) (fun _ hk => hk.2) (.int .i64 t771)) (fun _ hk => hk.2) (.int .i64 t772)) (fun _ h_ => h_.1))) (Kd.S_base ho0) hb); replace BK760 := Aside0.mk (blk_below (g := gb760) (o := .cells #[.int .i64 x761000_2, .int .i64 x761001_2] 24 (0, 0)) (by (with_reducible repeat (first | refine blk_drewN ?_ _ | refine blk_drew ?_ | refine blk_alloc ?_ _)); refine blk_far ?_ NB760_774.out _; (with_reducible repeat (first | refine blk_drewN ?_ _ | refine blk_drew ?_ | refine blk_alloc ?_ _)); refine blk_far ?_ NB760_774.out _; (with_reducible repeat (first | refine blk_drewN ?_ _ | refine blk_drew ?_ | refine blk_alloc ?_ _)); exact BK760.out) hb); replace BK774 := Aside0.mk (blk_below (g := gb774) (o := .cells #[.int .i64 t771, .int .i64 t772] 24 (0, 0)) (by (with_reducible repeat (first | refine blk_drewN ?_ _ | refine blk_drew ?_ | refine blk_alloc ?_ _)); refine blk_put (cs := #[.int .i64 t771, .int .i64 0]) ?_ 1 _ rfl; (with_reducible repeat (first | refine blk_drewN ?_ _ | refine blk_drew ?_ | refine blk_alloc ?_ _)); refine blk_put (cs := #[.int .i64 0, .int .i64 0]) ?_ 0 _ rfl; (with_reducible repeat (first | refine blk_drewN ?_ _ | refine blk_drew ?_ | refine blk_alloc ?_ _)); exact BK774.out) hb); replace HB := Aside0.mk (below_step (bs HB (by simp [ag, GE760.out, GE774.out])) hb); clear ho0 hb; obtain ⟨hcz53_0, hcz53_1, hfz53_0, hfz53_1⟩ := cf2 BK774))
               go_roundg k3
               case measure => have := HJ3.out; have := HK2.out; have := HK3.out; omega
               case rel => exact ⟨(t775), (wrap64 (x15_3 + 1)), (by first | rfl | (simp; done) | (simp [*]; done)), H', ⟨by have := HJ3.out; have := HK2.out; have := HK3.out; omega⟩, ⟨by (with_reducible repeat (first | apply Kd.S_alloc | apply Kd.S_drewN | apply Kd.S_drew)); exact Kd.S_mono (Kd.S_far (p := ⟨gb774, 1, none⟩) (Kd.S_far (p := ⟨gb774, 0, none⟩) (Kd.S_types HO777.out BK774.out (by decide)) (fun _ hk => hk.2) (.int .i64 t778)) (fun _ hk => hk.2) (.int .i64 t779)) (fun _ hk => hk.1.1.1.1)⟩, ⟨by (with_reducible repeat (first | refine blk_drewN ?_ _ | refine blk_drew ?_ | refine blk_alloc ?_ _)); refine blk_far ?_ NB760_774.out _; (with_reducible repeat (first | refine blk_drewN ?_ _ | refine blk_drew ?_ | refine blk_alloc ?_ _)); refine blk_far ?_ NB760_774.out _; (with_reducible repeat (first | refine blk_drewN ?_ _ | refine blk_drew ?_ | refine blk_alloc ?_ _)); exact BK760.out⟩, ⟨bs HB (by simp [ag, GE760.out, GE774.out])⟩⟩
            ·rw [if_neg c44] at H
             exact absurd H (by simp)
           ·replace c42 := Bool.eq_false_iff.mpr c42
            subst c42
            have H1 : (if t773 = 0 then (if t771 < 0 then (none) else (if t771 ≥ (x7_3.length : Int) then (none) else (selvedgelaw18_CylFound.l1 k3 a1 false t768 t759 (wrap64 (x15_3 + 1)) x761000_2 x761001_2))) else (none)) = some r := by rw [if_neg (show ¬ (false = true) by decide)] at H; exact H
            clear H
            have H := H1
            clear H1
            by_cases c54 : t773 = 0
            ·rw [if_pos c54] at H
             have c54b0 : (t773 == 0) = true := beq_iff_eq.mpr c54
             have c54b1 : (t773 != 0) = false := bne_eq_false_iff_eq.mpr c54
             clear c54
             by_cases c55 : t771 < 0
             ·rw [if_pos c55] at H
              exact absurd H (by simp)
             ·rw [if_neg c55] at H
              have c55b0 : decide (t771 < 0) = false := decide_eq_false c55
              clear c55
              by_cases c56 : t771 ≥ (x7_3.length : Int)
              ·rw [if_pos c56] at H
               exact absurd H (by simp)
              ·rw [if_neg c56] at H
               have c56b0 : decide ((x7_3.length : Int) ≤ t771) = false := decide_eq_false c56
               clear c56
               have H' := Aside0.mk H
               clear H
               obtain ⟨Ao57, co57, eo57⟩ := Kd.S_slice HO_7.out
               subst eo57
               go_wp2_with (first | ((with_reducible refine gate_callee (f := 40) rfl ?_); refine goesL_ (some 85) rfl rfl Try.func40 (by kernel_rfl) rfl #[.slice Ao57 x7_3.length co57, .int .i64 (Int.tmod (wrap64 (a1)) (x7_3.length : Int))] rfl (by simp only [List.map_toArray, List.map_cons, List.map_nil]; first | done | rfl) ?_; (with_reducible refine (cyl_File.calls _ _ x7_3 (Int.tmod (wrap64 (a1)) (x7_3.length : Int)) t768 t771 t772 t773 _ ?side1 ?side2 A41.out).mono ?_); (case side1 => repeat (first | exact (Kd.S_reads' HO_7.out).2.2 | (with_reducible refine Kd.C_alloc ?_ _) | (with_reducible refine Kd.C_drewN ?_ _) | (with_reducible refine Kd.C_drew ?_))); (case side2 => exact (Kd.S_reads' HO_7.out).2.1); rintro e w58 ⟨v769, rfl, ho0, hb⟩; refine ⟨_, rfl, ?_⟩; have hone_v769 := Kd.S_one ho0; have HO770 := Aside0.mk (Kd.S_lower (Kd.S_new' (Kd.S_newM (M := fun k_ => (w.heap.size ≤ k_)) ho0 (below_size (bs HB (by simp [ag, GE760.out]))) (fun k_ h_ => h_)) (Kd.S_lt (sk HO_7))) (below_size (bs HB (by simp [ag, GE760.out])))); replace HO_7 := Aside0.mk (Kd.S_elder' (sk HO_7) (Kd.S_base ho0) hb); replace BK760 := Aside0.mk (bb BK760 hb); replace HB := Aside0.mk (below_step (bs HB (by simp [ag, GE760.out])) hb); clear ho0 hb) | ((with_reducible refine gate_dst (N := 17) rfl ?_); (try (refine gate_guard (by rfl) ?_; dsimp only)); refine box_event rfl (N := 17) rfl (cs := #[.int .i64 0, .int .i64 0]) (t := 24) (by first | (go_simp; done) | (go_simp; rfl)) ?_; intro gb774 hg w59 hbox hb; replace HO_7 := Aside0.mk (Kd.S_below (sk HO_7) hb); replace HO770 := Aside0.mk (Kd.S_below (sk HO770) hb); have BK774 := Aside0.mk (hbox); have GW774 := gl HB hg (by simp [ag, GE760.out]); have GE774 := gl HB hg (by simp [ag, GE760.out]); replace HB := Aside0.mk (below_step (bs HB (by simp [ag, GE760.out])) hb); have NB760_774 := nl BK760 hg; have NB774_760 := nt BK760 hg; replace BK760 := Aside0.mk (bb BK760 hb); clear hb hbox hg; have hnb60 := NB774_760.out; have hnc60 := NB760_774.out; obtain ⟨hcz61_0, hcz61_1, hfz61_0, hfz61_1⟩ := cf2 BK774))
               go_roundg k3
               case measure => have := HJ3.out; have := HK2.out; have := HK3.out; omega
               case rel => exact ⟨(t768), (wrap64 (x15_3 + 1)), (by first | rfl | (simp; done) | (simp [*]; done)), H', ⟨by have := HJ3.out; have := HK2.out; have := HK3.out; omega⟩, ⟨by (with_reducible repeat (first | apply Kd.S_alloc | apply Kd.S_drewN | apply Kd.S_drew)); exact Kd.S_mono (Kd.S_far (p := ⟨gb774, 1, none⟩) (Kd.S_far (p := ⟨gb774, 0, none⟩) (Kd.S_types HO770.out BK774.out (by decide)) (fun _ hk => hk.2) (.int .i64 t771)) (fun _ hk => hk.2) (.int .i64 t772)) (fun _ hk => hk.1.1.1)⟩, ⟨by (with_reducible repeat (first | refine blk_drewN ?_ _ | refine blk_drew ?_ | refine blk_alloc ?_ _)); refine blk_far ?_ NB760_774.out _; (with_reducible repeat (first | refine blk_drewN ?_ _ | refine blk_drew ?_ | refine blk_alloc ?_ _)); refine blk_far ?_ NB760_774.out _; (with_reducible repeat (first | refine blk_drewN ?_ _ | refine blk_drew ?_ | refine blk_alloc ?_ _)); exact BK760.out⟩, ⟨bs HB (by simp [ag, GE760.out, GE774.out])⟩⟩
            ·rw [if_neg c54] at H
             exact absurd H (by simp)
         ·rw [if_neg c39] at H
          have c39b0 : decide (x15_3 < t759) = false := decide_eq_false c39
          clear c39
          replace H := Option.bind_eq_some_iff.mp H
          obtain ⟨⟨t781, t784, t785, t786⟩, A620, H⟩ := H
          try dsimp -implicitDefEqProofs -simprocs only at H
          have A62 := Aside0.mk A620
          clear A620
          replace H := Option.bind_eq_some_iff.mp H
          obtain ⟨⟨t788, t791, t792, t793⟩, A630, H⟩ := H
          try dsimp -implicitDefEqProofs -simprocs only at H
          have A63 := Aside0.mk A630
          clear A630
          replace H := Option.bind_eq_some_iff.mp H
          obtain ⟨⟨t795, t798, t799, t800⟩, A640, H⟩ := H
          try dsimp -implicitDefEqProofs -simprocs only at H
          have A64 := Aside0.mk A640
          clear A640
          replace H := Option.bind_eq_some_iff.mp H
          obtain ⟨⟨t802, t803⟩, A650, H⟩ := H
          try dsimp -implicitDefEqProofs -simprocs only at H
          have A65 := Aside0.mk A650
          clear A650
          replace H := Option.bind_eq_some_iff.mp H
          obtain ⟨t804, A660, H⟩ := H
          try dsimp -implicitDefEqProofs -simprocs only at H
          have A66 := Aside0.mk A660
          clear A660
          by_cases c67 : t804 = true
          ·subst c67
           have H1 : (if t786 = 4 then (if t793 = 4 then (if t800 = 4 then (if t802 = 0 then (if t803 = 0 then ((cyl_Whole.f k3 x7_3).bind fun t805 => (if t805 = true then (some true) else (none))) else (none)) else (none)) else (none)) else (none)) else (none)) = some r := by rw [if_pos rfl] at H; exact H
           clear H
           have H := H1
           clear H1
           by_cases c68 : t786 = 4
           ·rw [if_pos c68] at H
            have c68b0 : (t786 == 4) = true := beq_iff_eq.mpr c68
            have c68b1 : (t786 != 4) = false := bne_eq_false_iff_eq.mpr c68
            clear c68
            by_cases c69 : t793 = 4
            ·rw [if_pos c69] at H
             have c69b0 : (t793 == 4) = true := beq_iff_eq.mpr c69
             have c69b1 : (t793 != 4) = false := bne_eq_false_iff_eq.mpr c69
             clear c69
             by_cases c70 : t800 = 4
             ·rw [if_pos c70] at H
              have c70b0 : (t800 == 4) = true := beq_iff_eq.mpr c70
              have c70b1 : (t800 != 4) = false := bne_eq_false_iff_eq.mpr c70
              clear c70
              by_cases c71 : t802 = 0
              ·rw [if_pos c71] at H
               have c71b0 : (t802 == 0) = true := beq_iff_eq.mpr c71
               have c71b1 : (t802 != 0) = false := bne_eq_false_iff_eq.mpr c71
               clear c71
               by_cases c72 : t803 = 0
               ·rw [if_pos c72] at H
                have c72b0 : (t803 == 0) = true := beq_iff_eq.mpr c72
                have c72b1 : (t803 != 0) = false := bne_eq_false_iff_eq.mpr c72
                clear c72
                replace H := Option.bind_eq_some_iff.mp H
                obtain ⟨t805, A730, H⟩ := H
                try dsimp -implicitDefEqProofs -simprocs only at H
                have A73 := Aside0.mk A730
                clear A730
                by_cases c74 : t805 = true
                ·subst c74
                 have H1 : (some true) = some r := by rw [if_pos rfl] at H; exact H
                 clear H
                 have H := H1
                 clear H1
                 obtain rfl := Option.some.inj H
                 obtain ⟨hcz75_0, hcz75_1, hfz75_0, hfz75_1⟩ := cf2 BK760
                 obtain ⟨Ao76, co76, eo76⟩ := Kd.S_slice HO_7.out
                 subst eo76
                 go_wp2_with (first | ((with_reducible refine gate_callee (f := 13) rfl ?_); refine goesL_ (some 114) rfl rfl Try.func13 (by kernel_rfl) rfl #[.slice Ao76 x7_3.length co76, .agg #[.int .i64 x761000_2, .int .i64 x761001_2]] rfl (by (try simp only [List.map_toArray, List.map_cons, List.map_nil]); first | done | rfl | (simp only [List.length_drop, List.length_take]; rfl)) ?_; (with_reducible refine (cyl_Take.calls _ _ x7_3 x761000_2 x761001_2 t781 t784 t785 t786 _ ?side1 ?side2 A62.out).mono ?_); (case side1 => repeat (first | exact (Kd.S_reads' HO_7.out).2.2 | (with_reducible refine Kd.C_alloc ?_ _) | (with_reducible refine Kd.C_drewN ?_ _) | (with_reducible refine Kd.C_drew ?_))); (case side2 => exact (Kd.S_reads' HO_7.out).2.1); rintro e w77 ⟨v782, rfl, ho0, hb⟩; refine ⟨_, rfl, ?_⟩; have hone_v782 := Kd.S_one ho0; have HO783 := Aside0.mk (Kd.S_lower (Kd.S_new' (Kd.S_newM (M := fun k_ => (w.heap.size ≤ k_)) ho0 (below_size (bs HB (by simp [ag, GE760.out]))) (fun k_ h_ => h_)) (Kd.S_lt (sk HO_7))) (below_size (bs HB (by simp [ag, GE760.out])))); replace HO_7 := Aside0.mk (Kd.S_elder' (sk HO_7) (Kd.S_base ho0) hb); replace BK760 := Aside0.mk (bb BK760 hb); replace HB := Aside0.mk (below_step (bs HB (by simp [ag, GE760.out])) hb); clear ho0 hb) | ((with_reducible refine gate_dst (N := 20) rfl ?_); (try (refine gate_guard (by rfl) ?_; dsimp only)); refine box_event rfl (N := 20) rfl (cs := #[.int .i64 0, .int .i64 0]) (t := 24) (by first | (go_simp; done) | (go_simp; rfl)) ?_; intro gb787 hg w78 hbox hb; replace HO_7 := Aside0.mk (Kd.S_below (sk HO_7) hb); replace HO783 := Aside0.mk (Kd.S_below (sk HO783) hb); have BK787 := Aside0.mk (hbox); have GW787 := gl HB hg (by simp [ag, GE760.out]); have GE787 := gl HB hg (by simp [ag, GE760.out]); replace HB := Aside0.mk (below_step (bs HB (by simp [ag, GE760.out])) hb); have NB760_787 := nl BK760 hg; have NB787_760 := nt BK760 hg; replace BK760 := Aside0.mk (bb BK760 hb); clear hb hbox hg; have hnb79 := NB787_760.out; have hnc79 := NB760_787.out; obtain ⟨hcz80_0, hcz80_1, hfz80_0, hfz80_1⟩ := cf2 BK787) | ((with_reducible refine gate_callee (f := 40) rfl ?_); refine goesL_ (some 120) rfl rfl Try.func40 (by kernel_rfl) rfl #[.slice Ao76 x7_3.length co76, .int .i64 0] rfl (by simp only [List.map_toArray, List.map_cons, List.map_nil]; first | done | rfl) ?_; (with_reducible refine (cyl_File.calls _ _ x7_3 0 t788 t791 t792 t793 _ ?side1 ?side2 A63.out).mono ?_); (case side1 => refine (Kd.S_reads' (e := 42) (base := w.heap.size) (ok := fun k_ => ((w.heap.size ≤ k_) ∧ some k_ ≠ (v782 : Value).ownBlock)) (n := x7_3.length) (c := co76) ?_).2.2; exact (by (with_reducible repeat (first | apply Kd.S_alloc | apply Kd.S_drewN | apply Kd.S_drew)); exact (Kd.S_mono (Kd.S_far (p := ⟨gb787, 1, none⟩) (Kd.S_far (p := ⟨gb787, 0, none⟩) (Kd.S_types HO_7.out BK787.out (by decide)) (fun _ hk => hk.2) (.int .i64 t784)) (fun _ hk => hk.2) (.int .i64 t785)) (fun _ h_ => h_.1)))); (case side2 => exact (Kd.S_reads' HO_7.out).2.1); rintro e w81 ⟨v789, rfl, ho0, hb⟩; refine ⟨_, rfl, ?_⟩; have hone_v789 := Kd.S_one ho0; have HO790 := Aside0.mk (Kd.S_lower (Kd.S_new' (Kd.S_new' (Kd.S_newM (M := fun k_ => (w.heap.size ≤ k_)) ho0 (below_size (bs HB (by simp [ag, GE760.out, GE787.out]))) (fun k_ h_ => h_)) (Kd.S_lt (by (with_reducible repeat (first | apply Kd.S_alloc | apply Kd.S_drewN | apply Kd.S_drew)); exact (Kd.S_mono (Kd.S_far (p := ⟨gb787, 1, none⟩) (Kd.S_far (p := ⟨gb787, 0, none⟩) (Kd.S_types HO_7.out BK787.out (by decide)) (fun _ hk => hk.2) (.int .i64 t784)) (fun _ hk => hk.2) (.int .i64 t785)) (fun _ h_ => h_.1))))) (Kd.S_lt (by (with_reducible repeat (first | apply Kd.S_alloc | apply Kd.S_drewN | apply Kd.S_drew)); exact (Kd.S_mono (Kd.S_far (p := ⟨gb787, 1, none⟩) (Kd.S_far (p := ⟨gb787, 0, none⟩) (Kd.S_types HO783.out BK787.out (by decide)) (fun _ hk => hk.2) (.int .i64 t784)) (fun _ hk => hk.2) (.int .i64 t785)) (fun _ h_ => h_.1))))) (below_size (bs HB (by simp [ag, GE760.out, GE787.out])))); replace HO_7 := Aside0.mk (Kd.S_elder' (by (with_reducible repeat (first | apply Kd.S_alloc | apply Kd.S_drewN | apply Kd.S_drew)); exact (Kd.S_mono (Kd.S_far (p := ⟨gb787, 1, none⟩) (Kd.S_far (p := ⟨gb787, 0, none⟩) (Kd.S_types HO_7.out BK787.out (by decide)) (fun _ hk => hk.2) (.int .i64 t784)) (fun _ hk => hk.2) (.int .i64 t785)) (fun _ h_ => h_.1))) (Kd.S_base ho0) hb); replace HO783 := Aside0.mk (Kd.S_elder' (by (with_reducible repeat (first | apply Kd.S_alloc | apply Kd.S_drewN | apply Kd.S_drew)); exact (Kd.S_mono (Kd.S_far (p := ⟨gb787, 1, none⟩) (Kd.S_far (p := ⟨gb787, 0, none⟩) (Kd.S_types HO783.out BK787.out (by decide)) (fun _ hk => hk.2) (.int .i64 t784)) (fun _ hk => hk.2) (.int .i64 t785)) (fun _ h_ => h_.1))) (Kd.S_base ho0) hb); replace BK760 := Aside0.mk (blk_below (g := gb760) (o := .cells #[.int .i64 x761000_2, .int .i64 x761001_2] 24 (0, 0)) (by (with_reducible repeat (first | refine blk_drewN ?_ _ | refine blk_drew ?_ | refine blk_alloc ?_ _)); refine blk_far ?_ NB760_787.out _; (with_reducible repeat (first | refine blk_drewN ?_ _ | refine blk_drew ?_ | refine blk_alloc ?_ _)); refine blk_far ?_ NB760_787.out _; (with_reducible repeat (first | refine blk_drewN ?_ _ | refine blk_drew ?_ | refine blk_alloc ?_ _)); exact BK760.out) hb); replace BK787 := Aside0.mk (blk_below (g := gb787) (o := .cells #[.int .i64 t784, .int .i64 t785] 24 (0, 0)) (by (with_reducible repeat (first | refine blk_drewN ?_ _ | refine blk_drew ?_ | refine blk_alloc ?_ _)); refine blk_put (cs := #[.int .i64 t784, .int .i64 0]) ?_ 1 _ rfl; (with_reducible repeat (first | refine blk_drewN ?_ _ | refine blk_drew ?_ | refine blk_alloc ?_ _)); refine blk_put (cs := #[.int .i64 0, .int .i64 0]) ?_ 0 _ rfl; (with_reducible repeat (first | refine blk_drewN ?_ _ | refine blk_drew ?_ | refine blk_alloc ?_ _)); exact BK787.out) hb); replace HB := Aside0.mk (below_step (bs HB (by simp [ag, GE760.out, GE787.out])) hb); clear ho0 hb) | ((with_reducible refine gate_dst (N := 23) rfl ?_); (try (refine gate_guard (by rfl) ?_; dsimp only)); refine box_event rfl (N := 23) rfl (cs := #[.int .i64 0, .int .i64 0]) (t := 24) (by first | (go_simp; done) | (go_simp; rfl)) ?_; intro gb794 hg w82 hbox hb; replace HO_7 := Aside0.mk (Kd.S_below (sk HO_7) hb); replace HO783 := Aside0.mk (Kd.S_below (sk HO783) hb); replace HO790 := Aside0.mk (Kd.S_below (sk HO790) hb); have BK794 := Aside0.mk (hbox); have GW794 := gl HB hg (by simp [ag, GE760.out, GE787.out]); have GE794 := gl HB hg (by simp [ag, GE760.out, GE787.out]); replace HB := Aside0.mk (below_step (bs HB (by simp [ag, GE760.out, GE787.out])) hb); have NB760_794 := nl BK760 hg; have NB794_760 := nt BK760 hg; replace BK760 := Aside0.mk (bb BK760 hb); have NB787_794 := nl BK787 hg; have NB794_787 := nt BK787 hg; replace BK787 := Aside0.mk (bb BK787 hb); clear hb hbox hg; have hnb83 := NB794_760.out; have hnc83 := NB760_794.out; have hnb84 := NB794_787.out; have hnc84 := NB787_794.out; obtain ⟨hcz85_0, hcz85_1, hfz85_0, hfz85_1⟩ := cf2 BK794) | ((with_reducible refine gate_callee (f := 23) rfl ?_); refine goesL_ (some 126) rfl rfl Try.func23 (by kernel_rfl) rfl #[.slice Ao76 x7_3.length co76] rfl (by simp only [List.map_toArray, List.map_cons, List.map_nil]; first | done | rfl) ?_; (with_reducible refine (cyl_Dir.calls k3 _ _ x7_3 t795 t798 t799 t800 _ ?side1 ?side2 A64.out).mono ?_); (case side1 => refine (Kd.S_reads' (e := 42) (base := w.heap.size) (ok := fun k_ => (((w.heap.size ≤ k_) ∧ some k_ ≠ (v782 : Value).ownBlock) ∧ some k_ ≠ (v789 : Value).ownBlock)) (n := x7_3.length) (c := co76) ?_).2.2; exact (by (with_reducible repeat (first | apply Kd.S_alloc | apply Kd.S_drewN | apply Kd.S_drew)); exact (Kd.S_mono (Kd.S_far (p := ⟨gb794, 1, none⟩) (Kd.S_far (p := ⟨gb794, 0, none⟩) (Kd.S_types HO_7.out BK794.out (by decide)) (fun _ hk => hk.2) (.int .i64 t791)) (fun _ hk => hk.2) (.int .i64 t792)) (fun _ h_ => h_.1)))); (case side2 => exact (Kd.S_reads' HO_7.out).2.1); rintro e w86 ⟨v796, rfl, ho0, hb⟩; refine ⟨_, rfl, ?_⟩; have hone_v796 := Kd.S_one ho0; have HO797 := Aside0.mk (Kd.S_lower (Kd.S_new' (Kd.S_new' (Kd.S_new' (Kd.S_newM (M := fun k_ => (w.heap.size ≤ k_)) ho0 (below_size (bs HB (by simp [ag, GE760.out, GE787.out, GE794.out]))) (fun k_ h_ => h_)) (Kd.S_lt (by (with_reducible repeat (first | apply Kd.S_alloc | apply Kd.S_drewN | apply Kd.S_drew)); exact (Kd.S_mono (Kd.S_far (p := ⟨gb794, 1, none⟩) (Kd.S_far (p := ⟨gb794, 0, none⟩) (Kd.S_types HO_7.out BK794.out (by decide)) (fun _ hk => hk.2) (.int .i64 t791)) (fun _ hk => hk.2) (.int .i64 t792)) (fun _ h_ => h_.1))))) (Kd.S_lt (by (with_reducible repeat (first | apply Kd.S_alloc | apply Kd.S_drewN | apply Kd.S_drew)); exact (Kd.S_mono (Kd.S_far (p := ⟨gb794, 1, none⟩) (Kd.S_far (p := ⟨gb794, 0, none⟩) (Kd.S_types HO783.out BK794.out (by decide)) (fun _ hk => hk.2) (.int .i64 t791)) (fun _ hk => hk.2) (.int .i64 t792)) (fun _ h_ => h_.1))))) (Kd.S_lt (by (with_reducible repeat (first | apply Kd.S_alloc | apply Kd.S_drewN | apply Kd.S_drew)); exact (Kd.S_mono (Kd.S_far (p := ⟨gb794, 1, none⟩) (Kd.S_far (p := ⟨gb794, 0, none⟩) (Kd.S_types HO790.out BK794.out (by decide)) (fun _ hk => hk.2) (.int .i64 t791)) (fun _ hk => hk.2) (.int .i64 t792)) (fun _ h_ => h_.1))))) (below_size (bs HB (by simp [ag, GE760.out, GE787.out, GE794.out])))); replace HO_7 := Aside0.mk (Kd.S_elder' (by (with_reducible repeat (first | apply Kd.S_alloc | apply Kd.S_drewN | apply Kd.S_drew)); exact (Kd.S_mono (Kd.S_far (p := ⟨gb794, 1, none⟩) (Kd.S_far (p := ⟨gb794, 0, none⟩) (Kd.S_types HO_7.out BK794.out (by decide)) (fun _ hk => hk.2) (.int .i64 t791)) (fun _ hk => hk.2) (.int .i64 t792)) (fun _ h_ => h_.1))) (Kd.S_base ho0) hb); replace HO783 := Aside0.mk (Kd.S_elder' (by (with_reducible repeat (first | apply Kd.S_alloc | apply Kd.S_drewN | apply Kd.S_drew)); exact (Kd.S_mono (Kd.S_far (p := ⟨gb794, 1, none⟩) (Kd.S_far (p := ⟨gb794, 0, none⟩) (Kd.S_types HO783.out BK794.out (by decide)) (fun _ hk => hk.2) (.int .i64 t791)) (fun _ hk => hk.2) (.int .i64 t792)) (fun _ h_ => h_.1))) (Kd.S_base ho0) hb); replace HO790 := Aside0.mk (Kd.S_elder' (by (with_reducible repeat (first | apply Kd.S_alloc | apply Kd.S_drewN | apply Kd.S_drew)); exact (Kd.S_mono (Kd.S_far (p := ⟨gb794, 1, none⟩) (Kd.S_far (p := ⟨gb794, 0, none⟩) (Kd.S_types HO790.out BK794.out (by decide)) (fun _ hk => hk.2) (.int .i64 t791)) (fun _ hk => hk.2) (.int .i64 t792)) (fun _ h_ => h_.1))) (Kd.S_base ho0) hb); replace BK760 := Aside0.mk (blk_below (g := gb760) (o := .cells #[.int .i64 x761000_2, .int .i64 x761001_2] 24 (0, 0)) (by (with_reducible repeat (first | refine blk_drewN ?_ _ | refine blk_drew ?_ | refine blk_alloc ?_ _)); refine blk_far ?_ NB760_794.out _; (with_reducible repeat (first | refine blk_drewN ?_ _ | refine blk_drew ?_ | refine blk_alloc ?_ _)); refine blk_far ?_ NB760_794.out _; (with_reducible repeat (first | refine blk_drewN ?_ _ | refine blk_drew ?_ | refine blk_alloc ?_ _)); exact BK760.out) hb); replace BK787 := Aside0.mk (blk_below (g := gb787) (o := .cells #[.int .i64 t784, .int .i64 t785] 24 (0, 0)) (by (with_reducible repeat (first | refine blk_drewN ?_ _ | refine blk_drew ?_ | refine blk_alloc ?_ _)); refine blk_far ?_ NB787_794.out _; (with_reducible repeat (first | refine blk_drewN ?_ _ | refine blk_drew ?_ | refine blk_alloc ?_ _)); refine blk_far ?_ NB787_794.out _; (with_reducible repeat (first | refine blk_drewN ?_ _ | refine blk_drew ?_ | refine blk_alloc ?_ _)); exact BK787.out) hb); replace BK794 := Aside0.mk (blk_below (g := gb794) (o := .cells #[.int .i64 t791, .int .i64 t792] 24 (0, 0)) (by (with_reducible repeat (first | refine blk_drewN ?_ _ | refine blk_drew ?_ | refine blk_alloc ?_ _)); refine blk_put (cs := #[.int .i64 t791, .int .i64 0]) ?_ 1 _ rfl; (with_reducible repeat (first | refine blk_drewN ?_ _ | refine blk_drew ?_ | refine blk_alloc ?_ _)); refine blk_put (cs := #[.int .i64 0, .int .i64 0]) ?_ 0 _ rfl; (with_reducible repeat (first | refine blk_drewN ?_ _ | refine blk_drew ?_ | refine blk_alloc ?_ _)); exact BK794.out) hb); replace HB := Aside0.mk (below_step (bs HB (by simp [ag, GE760.out, GE787.out, GE794.out])) hb); clear ho0 hb) | ((with_reducible refine gate_dst (N := 26) rfl ?_); (try (refine gate_guard (by rfl) ?_; dsimp only)); refine box_event rfl (N := 26) rfl (cs := #[.int .i64 0, .int .i64 0]) (t := 24) (by first | (go_simp; done) | (go_simp; rfl)) ?_; intro gb801 hg w87 hbox hb; replace HO_7 := Aside0.mk (Kd.S_below (sk HO_7) hb); replace HO783 := Aside0.mk (Kd.S_below (sk HO783) hb); replace HO790 := Aside0.mk (Kd.S_below (sk HO790) hb); replace HO797 := Aside0.mk (Kd.S_below (sk HO797) hb); have BK801 := Aside0.mk (hbox); have GW801 := gl HB hg (by simp [ag, GE760.out, GE787.out, GE794.out]); have GE801 := gl HB hg (by simp [ag, GE760.out, GE787.out, GE794.out]); replace HB := Aside0.mk (below_step (bs HB (by simp [ag, GE760.out, GE787.out, GE794.out])) hb); have NB760_801 := nl BK760 hg; have NB801_760 := nt BK760 hg; replace BK760 := Aside0.mk (bb BK760 hb); have NB787_801 := nl BK787 hg; have NB801_787 := nt BK787 hg; replace BK787 := Aside0.mk (bb BK787 hb); have NB794_801 := nl BK794 hg; have NB801_794 := nt BK794 hg; replace BK794 := Aside0.mk (bb BK794 hb); clear hb hbox hg; have hnb88 := NB801_760.out; have hnc88 := NB760_801.out; have hnb89 := NB801_787.out; have hnc89 := NB787_801.out; have hnb90 := NB801_794.out; have hnc90 := NB794_801.out; obtain ⟨hcz91_0, hcz91_1, hfz91_0, hfz91_1⟩ := cf2 BK801) | ((with_reducible refine gate_callee (f := 22) rfl ?_); refine goesL_ (some 132) rfl rfl Try.func22 (by kernel_rfl) rfl #[.slice Ao76 x7_3.length co76] rfl (by simp only [List.map_toArray, List.map_cons, List.map_nil]; first | done | rfl) ?_; (with_reducible refine (cyl_Free.calls k3 _ _ x7_3 t802 t803 _ ?side1 ?side2 A65.out).mono ?_); (case side1 => refine (Kd.S_reads' (e := 42) (base := w.heap.size) (ok := fun k_ => ((((w.heap.size ≤ k_) ∧ some k_ ≠ (v782 : Value).ownBlock) ∧ some k_ ≠ (v789 : Value).ownBlock) ∧ some k_ ≠ (v796 : Value).ownBlock)) (n := x7_3.length) (c := co76) ?_).2.2; exact (by (with_reducible repeat (first | apply Kd.S_alloc | apply Kd.S_drewN | apply Kd.S_drew)); exact (Kd.S_mono (Kd.S_far (p := ⟨gb801, 1, none⟩) (Kd.S_far (p := ⟨gb801, 0, none⟩) (Kd.S_types HO_7.out BK801.out (by decide)) (fun _ hk => hk.2) (.int .i64 t798)) (fun _ hk => hk.2) (.int .i64 t799)) (fun _ h_ => h_.1)))); (case side2 => exact (Kd.S_reads' HO_7.out).2.1); rintro e w92 ⟨rfl, hb⟩; refine ⟨_, rfl, ?_⟩; replace HO_7 := Aside0.mk (Kd.S_below (by (with_reducible repeat (first | apply Kd.S_alloc | apply Kd.S_drewN | apply Kd.S_drew)); exact (Kd.S_mono (Kd.S_far (p := ⟨gb801, 1, none⟩) (Kd.S_far (p := ⟨gb801, 0, none⟩) (Kd.S_types HO_7.out BK801.out (by decide)) (fun _ hk => hk.2) (.int .i64 t798)) (fun _ hk => hk.2) (.int .i64 t799)) (fun _ h_ => h_.1))) hb); replace HO783 := Aside0.mk (Kd.S_below (by (with_reducible repeat (first | apply Kd.S_alloc | apply Kd.S_drewN | apply Kd.S_drew)); exact (Kd.S_mono (Kd.S_far (p := ⟨gb801, 1, none⟩) (Kd.S_far (p := ⟨gb801, 0, none⟩) (Kd.S_types HO783.out BK801.out (by decide)) (fun _ hk => hk.2) (.int .i64 t798)) (fun _ hk => hk.2) (.int .i64 t799)) (fun _ h_ => h_.1))) hb); replace HO790 := Aside0.mk (Kd.S_below (by (with_reducible repeat (first | apply Kd.S_alloc | apply Kd.S_drewN | apply Kd.S_drew)); exact (Kd.S_mono (Kd.S_far (p := ⟨gb801, 1, none⟩) (Kd.S_far (p := ⟨gb801, 0, none⟩) (Kd.S_types HO790.out BK801.out (by decide)) (fun _ hk => hk.2) (.int .i64 t798)) (fun _ hk => hk.2) (.int .i64 t799)) (fun _ h_ => h_.1))) hb); replace HO797 := Aside0.mk (Kd.S_below (by (with_reducible repeat (first | apply Kd.S_alloc | apply Kd.S_drewN | apply Kd.S_drew)); exact (Kd.S_mono (Kd.S_far (p := ⟨gb801, 1, none⟩) (Kd.S_far (p := ⟨gb801, 0, none⟩) (Kd.S_types HO797.out BK801.out (by decide)) (fun _ hk => hk.2) (.int .i64 t798)) (fun _ hk => hk.2) (.int .i64 t799)) (fun _ h_ => h_.1))) hb); replace BK760 := Aside0.mk (blk_below (g := gb760) (o := .cells #[.int .i64 x761000_2, .int .i64 x761001_2] 24 (0, 0)) (by (with_reducible repeat (first | refine blk_drewN ?_ _ | refine blk_drew ?_ | refine blk_alloc ?_ _)); refine blk_far ?_ NB760_801.out _; (with_reducible repeat (first | refine blk_drewN ?_ _ | refine blk_drew ?_ | refine blk_alloc ?_ _)); refine blk_far ?_ NB760_801.out _; (with_reducible repeat (first | refine blk_drewN ?_ _ | refine blk_drew ?_ | refine blk_alloc ?_ _)); exact BK760.out) hb); replace BK787 := Aside0.mk (blk_below (g := gb787) (o := .cells #[.int .i64 t784, .int .i64 t785] 24 (0, 0)) (by (with_reducible repeat (first | refine blk_drewN ?_ _ | refine blk_drew ?_ | refine blk_alloc ?_ _)); refine blk_far ?_ NB787_801.out _; (with_reducible repeat (first | refine blk_drewN ?_ _ | refine blk_drew ?_ | refine blk_alloc ?_ _)); refine blk_far ?_ NB787_801.out _; (with_reducible repeat (first | refine blk_drewN ?_ _ | refine blk_drew ?_ | refine blk_alloc ?_ _)); exact BK787.out) hb); replace BK794 := Aside0.mk (blk_below (g := gb794) (o := .cells #[.int .i64 t791, .int .i64 t792] 24 (0, 0)) (by (with_reducible repeat (first | refine blk_drewN ?_ _ | refine blk_drew ?_ | refine blk_alloc ?_ _)); refine blk_far ?_ NB794_801.out _; (with_reducible repeat (first | refine blk_drewN ?_ _ | refine blk_drew ?_ | refine blk_alloc ?_ _)); refine blk_far ?_ NB794_801.out _; (with_reducible repeat (first | refine blk_drewN ?_ _ | refine blk_drew ?_ | refine blk_alloc ?_ _)); exact BK794.out) hb); replace BK801 := Aside0.mk (blk_below (g := gb801) (o := .cells #[.int .i64 t798, .int .i64 t799] 24 (0, 0)) (by (with_reducible repeat (first | refine blk_drewN ?_ _ | refine blk_drew ?_ | refine blk_alloc ?_ _)); refine blk_put (cs := #[.int .i64 t798, .int .i64 0]) ?_ 1 _ rfl; (with_reducible repeat (first | refine blk_drewN ?_ _ | refine blk_drew ?_ | refine blk_alloc ?_ _)); refine blk_put (cs := #[.int .i64 0, .int .i64 0]) ?_ 0 _ rfl; (with_reducible repeat (first | refine blk_drewN ?_ _ | refine blk_drew ?_ | refine blk_alloc ?_ _)); exact BK801.out) hb); replace HB := Aside0.mk (below_step (bs HB (by simp [ag, GE760.out, GE787.out, GE794.out, GE801.out])) hb); (try clear hb); (try clear hb2); (try clear hk); (try clear hi)) | ((with_reducible refine gate_callee (f := 17) rfl ?_); refine goesL_ (some 135) rfl rfl Try.func17 (by kernel_rfl) rfl #[] rfl (by simp only [List.map_toArray, List.map_cons, List.map_nil]; first | done | rfl) ?_; (with_reducible refine (selvedgelaw18_live.calls  true _ A66.out).mono ?_); rintro e w93 ⟨rfl, hb⟩; refine ⟨_, rfl, ?_⟩; replace HO_7 := Aside0.mk (Kd.S_below (sk HO_7) hb); replace HO783 := Aside0.mk (Kd.S_below (sk HO783) hb); replace HO790 := Aside0.mk (Kd.S_below (sk HO790) hb); replace HO797 := Aside0.mk (Kd.S_below (sk HO797) hb); replace BK760 := Aside0.mk (bb BK760 hb); replace BK787 := Aside0.mk (bb BK787 hb); replace BK794 := Aside0.mk (bb BK794 hb); replace BK801 := Aside0.mk (bb BK801 hb); replace HB := Aside0.mk (below_step (bs HB (by simp [ag, GE760.out, GE787.out, GE794.out, GE801.out])) hb); (try clear hb); (try clear hb2); (try clear hk); (try clear hi)) | (go_at_call 19; (with_reducible refine (cyl_Whole.calls k3 _ _ x7_3 true _ ?side1 ?side2 A73.out).mono ?_); (case side1 => repeat (first | exact (Kd.S_reads' HO_7.out).2.2 | (with_reducible refine Kd.C_alloc ?_ _) | (with_reducible refine Kd.C_drewN ?_ _) | (with_reducible refine Kd.C_drew ?_))); (case side2 => exact (Kd.S_reads' HO_7.out).2.1); rintro e w94 ⟨rfl, hb⟩; replace HO_7 := Aside0.mk (Kd.S_below (sk HO_7) hb); replace HO783 := Aside0.mk (Kd.S_below (sk HO783) hb); replace HO790 := Aside0.mk (Kd.S_below (sk HO790) hb); replace HO797 := Aside0.mk (Kd.S_below (sk HO797) hb); replace BK760 := Aside0.mk (bb BK760 hb); replace BK787 := Aside0.mk (bb BK787 hb); replace BK794 := Aside0.mk (bb BK794 hb); replace BK801 := Aside0.mk (bb BK801 hb); replace HB := Aside0.mk (below_step (bs HB (by simp [ag, GE760.out, GE787.out, GE794.out, GE801.out])) hb); (try clear hb); (try clear hb2); (try clear hk); (try clear hi)))
                 go_ret
                 exact ⟨by first | rfl | (simp [errW_none, errW_some] <;> rfl) | (simp [*, errW_none, errW_some] <;> rfl), bs HB (by simp [ag, GE760.out, GE787.out, GE794.out, GE801.out])⟩
                ·replace c74 := Bool.eq_false_iff.mpr c74
                 subst c74
                 have H1 : (none) = some r := by rw [if_neg (show ¬ (false = true) by decide)] at H; exact H
                 clear H
                 have H := H1
                 clear H1
                 exact absurd H (by simp)
               ·rw [if_neg c72] at H
                exact absurd H (by simp)
              ·rw [if_neg c71] at H
               exact absurd H (by simp)
             ·rw [if_neg c70] at H
              exact absurd H (by simp)
            ·rw [if_neg c69] at H
             exact absurd H (by simp)
           ·rw [if_neg c68] at H
            exact absurd H (by simp)
          ·replace c67 := Bool.eq_false_iff.mpr c67
           subst c67
           have H1 : (none) = some r := by rw [if_neg (show ¬ (false = true) by decide)] at H; exact H
           clear H
           have H := H1
           clear H1
           exact absurd H (by simp)

end Go.Proofs.Ytehjmmedghcndaa.PG
