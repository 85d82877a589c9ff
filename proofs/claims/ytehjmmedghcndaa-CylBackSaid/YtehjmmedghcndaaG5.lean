import Derived.Test.YtehjmmedghcndaaPGx0
import Derived.Test.YtehjmmedghcndaaJ43
import Derived.Test.YtehjmmedghcndaaLT
namespace Go.Proofs.Ytehjmmedghcndaa.PG
open Go.RowKit Go.Proofs.YtehjmmedghcndaaW.PrintWords Go.Proofs.YtehjmmedghcndaaW.PrintLast Go.Proofs.YtehjmmedghcndaaW.PrintMore
attribute [local go_sem] max2_int min2_int max_two min_two max_three min_three max_four min_four run_store_one   -- for this text's walks alone
set_option linter.unusedVariables false
set_option linter.unusedSimpArgs false
attribute [local go_sem high] eqA81
/-! ### slices_Equal_int_int: function 61 -/
def slices_Equal_int_int.l0 : Nat → List Int → List Int → Int → Int → Option (Bool)
 | 0, _, _, _, _ => none
 | k + 1, x0, x1, x12, x13 => if x13 < x12 then (if 0 ≤ x13 then (if x13 < (x0.length : Int) then (if x13 < (x1.length : Int) then (if (rd x0 x13) = (rd x1 x13) then (slices_Equal_int_int.l0 k x0 x1 x12 (wrap64 (x13 + 1))) else (some false)) else (none)) else (none)) else (none)) else (some true)
def slices_Equal_int_int.f (k : Nat) (l0 : List Int) (l1 : List Int) : Option (Bool) := if (l0.length : Int) = (l1.length : Int) then (slices_Equal_int_int.l0 k l0 l1 (l0.length : Int) 0) else (some false)
set_option maxHeartbeats 8000000 in
set_option maxRecDepth 100000 in
theorem slices_Equal_int_int.calls (k : Nat) (A0 : Option Addr) (c0 : Nat) (l0 : List Int) (A1 : Option Addr) (c1 : Nat) (l1 : List Int) (r : Bool) (w : World) (hr0 : Kd.C (Kd.int .i64) w A0 l0.length l0) (hc0 : l0.length ≤ c0) (hr1 : Kd.C (Kd.int .i64) w A1 l1.length l1) (hc1 : l1.length ≤ c1) (h : slices_Equal_int_int.f k l0 l1 = some r) :
  Calls Try.prog 61 #[.slice A0 l0.length c0, .slice A1 l1.length c1] w fun e w' => e = .returned (.bool r) ∧ Drawn0 w w' := by
 have HR0 := Aside0.mk hr0
 have HC0 := Aside0.mk hc0
 clear hr0 hc0
 have HR1 := Aside0.mk hr1
 have HC1 := Aside0.mk hc1
 clear hr1 hc1
 have H : (if (l0.length : Int) = (l1.length : Int) then (slices_Equal_int_int.l0 k l0 l1 (l0.length : Int) 0) else (some false)) = some r := h
 clear h
 by_cases c3 : (l0.length : Int) = (l1.length : Int)
 ·rw [if_pos c3] at H
  have c3b0 : ((l0.length : Int) == (l1.length : Int)) = true := beq_iff_eq.mpr c3
  have c3b1 : ((l0.length : Int) != (l1.length : Int)) = false := bne_eq_false_iff_eq.mpr c3
  have c3b2 : (l0.length == l1.length) = true := by first | simpa using c3 | (simp at c3 ⊢; omega)
  clear c3
  have H' := Aside0.mk H
  clear H
  go_enter Try.func61, Try.ntmps61
  go_wp2
  repeat (go_quiet (fail); try go_wp2)
  go_loopg [13] k (fun kq v13 w' => ∃ (x13_1 : Int), v13 = .int .i64 x13_1 ∧ Aside0 (slices_Equal_int_int.l0 kq l0 l1 (l0.length : Int) x13_1 = some r) ∧ Aside0 (kq ≤ k) ∧ Drawn0 w w')
  case atStart => exact ⟨(0), (by first | rfl | (simp; done) | (simp [*]; done)), H', ⟨Nat.le_refl _⟩, by repeat (first | exact Drawn0.refl _ | apply Drawn0.step)⟩
  case round =>
   clear H'
   try clear c1
   try clear p2
   try clear c3
   try clear c3b0
   try clear c3b1
   try clear c3b2
   obtain ⟨x13_1, rfl, HA, HK1, ⟨m1, rfl⟩⟩ := hrel
   cases gk with
   | zero => exact absurd HA.out (by simp [slices_Equal_int_int.l0])
   | succ k1 =>
    have H := HA.out
    clear HA
    simp only [slices_Equal_int_int.l0] at H
    by_cases c4 : x13_1 < (l0.length : Int)
    ·rw [if_pos c4] at H
     have c4b0 : decide (x13_1 < (l0.length : Int)) = true := decide_eq_true c4
     clear c4
     by_cases c5 : 0 ≤ x13_1
     ·rw [if_pos c5] at H
      have c5b0 : decide (0 ≤ x13_1) = true := decide_eq_true c5
      clear c5
      by_cases c6 : x13_1 < (l0.length : Int)
      ·rw [if_pos c6] at H
       have c6b0 : decide (x13_1 < (l0.length : Int)) = true := decide_eq_true c6
       clear c6
       by_cases c7 : x13_1 < (l1.length : Int)
       ·rw [if_pos c7] at H
        have c7b0 : decide (x13_1 < (l1.length : Int)) = true := decide_eq_true c7
        clear c7
        by_cases c8 : (rd l0 x13_1) = (rd l1 x13_1)
        ·rw [if_pos c8] at H
         have c8b0 : ((rd l0 x13_1) == (rd l1 x13_1)) = true := beq_iff_eq.mpr c8
         have c8b1 : ((rd l0 x13_1) != (rd l1 x13_1)) = false := bne_eq_false_iff_eq.mpr c8
         clear c8
         have H' := Aside0.mk H
         clear H
         have p460 : 0 ≤ (x13_1 : Int) := of_decide_eq_true (by assumption)
         have q460 : x13_1 < (l0.length : Int) := of_decide_eq_true (by assumption)
         obtain ⟨ad460, e460, hx460_0⟩ := Kd.at_int HR0.out x13_1 p460 q460
         cases e460
         replace p460 := eq_true p460
         replace q460 := eq_true q460
         have p461 : 0 ≤ (x13_1 : Int) := of_decide_eq_true (by assumption)
         have q461 : x13_1 < (l1.length : Int) := of_decide_eq_true (by assumption)
         obtain ⟨ad461, e461, hx461_0⟩ := Kd.at_int HR1.out x13_1 p461 q461
         cases e461
         replace p461 := eq_true p461
         replace q461 := eq_true q461
         go_wp2
         repeat (go_quiet (fail); try go_wp2)
         go_roundg k1
         case measure => have := HK1.out; omega
         case rel => exact ⟨(wrap64 (x13_1 + 1)), (by first | rfl | (simp; done) | (simp [*]; done)), H', ⟨by have := HK1.out; omega⟩, by repeat (first | exact Drawn0.refl _ | apply Drawn0.step)⟩
        ·rw [if_neg c8] at H
         have c8b0 : ((rd l0 x13_1) == (rd l1 x13_1)) = false := beq_eq_false_iff_ne.mpr c8
         have c8b1 : ((rd l0 x13_1) != (rd l1 x13_1)) = true := bne_iff_ne.mpr c8
         obtain rfl := Option.some.inj H
         have p460 : 0 ≤ (x13_1 : Int) := of_decide_eq_true (by assumption)
         have q460 : x13_1 < (l0.length : Int) := of_decide_eq_true (by assumption)
         obtain ⟨ad460, e460, hx460_0⟩ := Kd.at_int HR0.out x13_1 p460 q460
         cases e460
         replace p460 := eq_true p460
         replace q460 := eq_true q460
         have p461 : 0 ≤ (x13_1 : Int) := of_decide_eq_true (by assumption)
         have q461 : x13_1 < (l1.length : Int) := of_decide_eq_true (by assumption)
         obtain ⟨ad461, e461, hx461_0⟩ := Kd.at_int HR1.out x13_1 p461 q461
         cases e461
         replace p461 := eq_true p461
         replace q461 := eq_true q461
         go_wp2
         repeat (go_quiet (fail); try go_wp2)
         go_ret
         exact ⟨by first | rfl | (simp; done) | (simp [*]; done), by repeat (first | exact Drawn0.refl _ | apply Drawn0.step)⟩
       ·rw [if_neg c7] at H
        exact absurd H (by simp)
      ·rw [if_neg c6] at H
       exact absurd H (by simp)
     ·rw [if_neg c5] at H
      exact absurd H (by simp)
    ·rw [if_neg c4] at H
     have c4b0 : decide (x13_1 < (l0.length : Int)) = false := decide_eq_false c4
     clear c4
     obtain rfl := Option.some.inj H
     go_wp2
     repeat (go_quiet (fail); try go_wp2)
     go_ret
     exact ⟨by first | rfl | (simp; done) | (simp [*]; done), by repeat (first | exact Drawn0.refl _ | apply Drawn0.step)⟩
 ·rw [if_neg c3] at H
  have c3b0 : ((l0.length : Int) == (l1.length : Int)) = false := beq_eq_false_iff_ne.mpr c3
  have c3b1 : ((l0.length : Int) != (l1.length : Int)) = true := bne_iff_ne.mpr c3
  have c3b2 : (l0.length == l1.length) = false := by first | simpa using c3 | (simp at c3 ⊢; omega)
  obtain rfl := Option.some.inj H
  go_enter Try.func61, Try.ntmps61
  go_wp2
  repeat (go_quiet (fail); try go_wp2)
  go_ret
  exact ⟨by first | rfl | (simp; done) | (simp [*]; done), by repeat (first | exact Drawn0.refl _ | apply Drawn0.step)⟩

/-! ### cyl_Same: function 28 -/
def cyl_Same.f (k : Nat) (a0_0 : Int) (a0_1 : Int) (a0_2 : Int) (a0_3 : Int) (a0_4 : Int) (l0_5 : List Int) (l0_6 : List Int) (a1_0 : Int) (a1_1 : Int) (a1_2 : Int) (a1_3 : Int) (a1_4 : Int) (l1_5 : List Int) (l1_6 : List Int) : Option (Bool) := if ((wrap64 (a0_0 - a1_0)) == 0 && ((Go.bits .xor .i64 a0_1 a1_1) == 0 && ((Go.bits .xor .i64 a0_2 a1_2) == 0 && ((Go.bits .xor .i64 a0_3 a1_3) == 0 && ((Go.bits .xor .i64 a0_4 a1_4) == 0))))) = true then ((slices_Equal_int_int.f k l0_5 l1_5).bind fun t465 => (if t465 = true then ((slices_Equal_int_int.f k l0_6 l1_6).bind fun t466 => (some t466)) else (some false))) else (some false)
set_option maxHeartbeats 8000000 in
set_option maxRecDepth 100000 in
theorem cyl_Same.calls (k : Nat) (a0_0 : Int) (a0_1 : Int) (a0_2 : Int) (a0_3 : Int) (a0_4 : Int) (A0_5 : Option Addr) (c0_5 : Nat) (l0_5 : List Int) (A0_6 : Option Addr) (c0_6 : Nat) (l0_6 : List Int) (a1_0 : Int) (a1_1 : Int) (a1_2 : Int) (a1_3 : Int) (a1_4 : Int) (A1_5 : Option Addr) (c1_5 : Nat) (l1_5 : List Int) (A1_6 : Option Addr) (c1_6 : Nat) (l1_6 : List Int) (r : Bool) (w : World) (hr0_5 : Kd.C (Kd.int .i64) w A0_5 l0_5.length l0_5) (hc0_5 : l0_5.length ≤ c0_5) (hr0_6 : Kd.C (Kd.int .i64) w A0_6 l0_6.length l0_6) (hc0_6 : l0_6.length ≤ c0_6) (hr1_5 : Kd.C (Kd.int .i64) w A1_5 l1_5.length l1_5) (hc1_5 : l1_5.length ≤ c1_5) (hr1_6 : Kd.C (Kd.int .i64) w A1_6 l1_6.length l1_6) (hc1_6 : l1_6.length ≤ c1_6) (h : cyl_Same.f k a0_0 a0_1 a0_2 a0_3 a0_4 l0_5 l0_6 a1_0 a1_1 a1_2 a1_3 a1_4 l1_5 l1_6 = some r) :
  Calls Try.prog 28 #[.agg #[.int .i64 a0_0, .int .i64 a0_1, .int .i64 a0_2, .int .i64 a0_3, .int .i64 a0_4, .slice A0_5 l0_5.length c0_5, .slice A0_6 l0_6.length c0_6], .agg #[.int .i64 a1_0, .int .i64 a1_1, .int .i64 a1_2, .int .i64 a1_3, .int .i64 a1_4, .slice A1_5 l1_5.length c1_5, .slice A1_6 l1_6.length c1_6]] w fun e w' => e = .returned (.bool r) ∧ Below w.heap.size w w' := by
 have hu42 := Try.underlying42
 have hu81 := Try.underlying81
 have HR0_5 := Aside0.mk hr0_5
 have HC0_5 := Aside0.mk hc0_5
 clear hr0_5 hc0_5
 have HR0_6 := Aside0.mk hr0_6
 have HC0_6 := Aside0.mk hc0_6
 clear hr0_6 hc0_6
 have HR1_5 := Aside0.mk hr1_5
 have HC1_5 := Aside0.mk hc1_5
 clear hr1_5 hc1_5
 have HR1_6 := Aside0.mk hr1_6
 have HC1_6 := Aside0.mk hc1_6
 clear hr1_6 hc1_6
 have HB := Aside0.mk (Below.refl w.heap.size w)
 obtain ⟨d0, hd0⟩ : ∃ d, wrap64 (a0_0 - a1_0) = d := ⟨_, rfl⟩
 obtain ⟨d1, hd1⟩ : ∃ d, Go.bits .xor .i64 a0_1 a1_1 = d := ⟨_, rfl⟩
 obtain ⟨d2, hd2⟩ : ∃ d, Go.bits .xor .i64 a0_2 a1_2 = d := ⟨_, rfl⟩
 obtain ⟨d3, hd3⟩ : ∃ d, Go.bits .xor .i64 a0_3 a1_3 = d := ⟨_, rfl⟩
 obtain ⟨d4, hd4⟩ : ∃ d, Go.bits .xor .i64 a0_4 a1_4 = d := ⟨_, rfl⟩
 unfold cyl_Same.f at h
 rw [hd0, hd1, hd2, hd3, hd4] at h
 have H : (if (d0 == 0 && (d1 == 0 && (d2 == 0 && (d3 == 0 && (d4 == 0))))) = true then ((slices_Equal_int_int.f k l0_5 l1_5).bind fun t465 => (if t465 = true then ((slices_Equal_int_int.f k l0_6 l1_6).bind fun t466 => (some t466)) else (some false))) else (some false)) = some r := h
 clear h
 by_cases c3 : (d0 == 0 && (d1 == 0 && (d2 == 0 && (d3 == 0 && (d4 == 0))))) = true
 ·rw [if_pos c3] at H
  have c3b0 : (d0 == 0 && (d1 == 0 && (d2 == 0 && (d3 == 0 && (d4 == 0))))) = true := c3
  (try (have c3b1 : decide (d0 = 0 && (d1 == 0 && (d2 == 0 && (d3 == 0 && (d4 == 0))))) = true := by simpa using c3))
  (try (have c3b2 : (d0 == 0 && (d1 == 0 && (d2 == 0 && (d3 == 0 && (d4 == 0))))) = true := by simpa using c3))
  clear c3
  replace H := Option.bind_eq_some_iff.mp H
  obtain ⟨t465, A40, H⟩ := H
  try dsimp -implicitDefEqProofs -simprocs only at H
  have A4 := Aside0.mk A40
  clear A40
  by_cases c5 : t465 = true
  ·subst c5
   have H1 : ((slices_Equal_int_int.f k l0_6 l1_6).bind fun t466 => (some t466)) = some r := by rw [if_pos rfl] at H; exact H
   clear H
   have H := H1
   clear H1
   replace H := Option.bind_eq_some_iff.mp H
   obtain ⟨t466, A60, H⟩ := H
   replace H : (some t466) = some r := H
   have A6 := Aside0.mk A60
   clear A60
   obtain rfl := Option.some.inj H
   go_enter Try.func28, Try.ntmps28
   go_wp2_with (first | ((with_reducible refine gate_dst (N := 2) rfl ?_); refine box_event rfl (N := 2) rfl (cs := #[.int .i64 a0_0, .int .i64 a0_1, .int .i64 a0_2, .int .i64 a0_3, .int .i64 a0_4, .slice A0_5 l0_5.length c0_5, .slice A0_6 l0_6.length c0_6]) (t := 42) (by first | (go_simp; done) | (go_simp; rfl)) ?_; intro gb462 hg w7 hbox hb; have BK462 := Aside0.mk (hbox); have GW462 := gs HB hg; have GE462 := gs HB hg; replace HB := Aside0.mk (below_step (bl HB) hb); clear hb hbox hg) | ((with_reducible refine gate_dst (N := 3) rfl ?_); refine box_event rfl (N := 3) rfl (cs := #[.int .i64 a1_0, .int .i64 a1_1, .int .i64 a1_2, .int .i64 a1_3, .int .i64 a1_4, .slice A1_5 l1_5.length c1_5, .slice A1_6 l1_6.length c1_6]) (t := 42) (by first | (go_simp; done) | (go_simp; rfl)) ?_; intro gb463 hg w8 hbox hb; have BK463 := Aside0.mk (hbox); have GW463 := gl HB hg (by simp [ag, GE462.out]); have GE463 := gl HB hg (by simp [ag, GE462.out]); replace HB := Aside0.mk (below_step (bs HB (by simp [ag, GE462.out])) hb); have NB462_463 := nl BK462 hg; have NB463_462 := nt BK462 hg; replace BK462 := Aside0.mk (bb BK462 hb); clear hb hbox hg; have hnb9 := NB462_463.out; have hnc9 := NB463_462.out; obtain ⟨hcz10_0, hcz10_1, hcz10_2, hcz10_3, hcz10_4, hcz10_5, hcz10_6, hfz10_0, hfz10_1, hfz10_2, hfz10_3, hfz10_4, hfz10_5, hfz10_6⟩ := cf7 BK462; obtain ⟨hcz11_0, hcz11_1, hcz11_2, hcz11_3, hcz11_4, hcz11_5, hcz11_6, hfz11_0, hfz11_1, hfz11_2, hfz11_3, hfz11_4, hfz11_5, hfz11_6⟩ := cf7 BK463) | ((with_reducible refine gate_dst (N := 5) rfl ?_); refine box_event rfl (N := 5) rfl (cs := #[.int .i64 0, .int .i64 0, .int .i64 0, .int .i64 0, .int .i64 0]) (t := 81) (by first | (go_simp; done) | (go_simp; rfl)) ?_; intro gb464 hg w12 hbox hb; have BK464 := Aside0.mk (hbox); have GW464 := gl HB hg (by simp [ag, GE462.out, GE463.out]); have GE464 := gl HB hg (by simp [ag, GE462.out, GE463.out]); replace HB := Aside0.mk (below_step (bs HB (by simp [ag, GE462.out, GE463.out])) hb); have NB462_464 := nl BK462 hg; have NB464_462 := nt BK462 hg; replace BK462 := Aside0.mk (bb BK462 hb); have NB463_464 := nl BK463 hg; have NB464_463 := nt BK463 hg; replace BK463 := Aside0.mk (bb BK463 hb); clear hb hbox hg; have hnb13 := NB464_462.out; have hnc13 := NB462_464.out; have hnb14 := NB464_463.out; have hnc14 := NB463_464.out; obtain ⟨hcz15_0, hcz15_1, hcz15_2, hcz15_3, hcz15_4, hfz15_0, hfz15_1, hfz15_2, hfz15_3, hfz15_4⟩ := cf5 BK464; obtain ⟨hcz16_0, hcz16_1, hcz16_2, hcz16_3, hcz16_4, hcz16_5, hcz16_6, hfz16_0, hfz16_1, hfz16_2, hfz16_3, hfz16_4, hfz16_5, hfz16_6⟩ := cf7 BK462; obtain ⟨hcz17_0, hcz17_1, hcz17_2, hcz17_3, hcz17_4, hcz17_5, hcz17_6, hfz17_0, hfz17_1, hfz17_2, hfz17_3, hfz17_4, hfz17_5, hfz17_6⟩ := cf7 BK463) | (go_at_call 61; (with_reducible refine (slices_Equal_int_int.calls k _ _ l0_5 _ _ l1_5 true _ ?side1 ?side2 ?side3 ?side4 A4.out).mono ?_); (case side1 => exact Kd.C_below HR0_5.out (bs HB (by simp [ag, GE462.out, GE463.out, GE464.out]))); (case side2 => exact HC0_5.out); (case side3 => exact Kd.C_below HR1_5.out (bs HB (by simp [ag, GE462.out, GE463.out, GE464.out]))); (case side4 => exact HC1_5.out); rintro e w' ⟨rfl, ⟨nd, rfl⟩⟩) | (go_at_call 61; (with_reducible refine (slices_Equal_int_int.calls k _ _ l0_6 _ _ l1_6 t466 _ ?side1 ?side2 ?side3 ?side4 A6.out).mono ?_); (case side1 => exact Kd.C_below HR0_6.out (bs HB (by simp [ag, GE462.out, GE463.out, GE464.out]))); (case side2 => exact HC0_6.out); (case side3 => exact Kd.C_below HR1_6.out (bs HB (by simp [ag, GE462.out, GE463.out, GE464.out]))); (case side4 => exact HC1_6.out); rintro e w' ⟨rfl, ⟨nd, rfl⟩⟩))
   go_ret
   exact ⟨by first | rfl | (simp [errW_none, errW_some] <;> rfl) | (simp [*, errW_none, errW_some] <;> rfl), bs HB (by simp [ag, GE462.out, GE463.out, GE464.out])⟩
  ·replace c5 := Bool.eq_false_iff.mpr c5
   subst c5
   have H1 : (some false) = some r := by rw [if_neg (show ¬ (false = true) by decide)] at H; exact H
   clear H
   have H := H1
   clear H1
   obtain rfl := Option.some.inj H
   go_enter Try.func28, Try.ntmps28
   go_wp2_with (first | ((with_reducible refine gate_dst (N := 2) rfl ?_); refine box_event rfl (N := 2) rfl (cs := #[.int .i64 a0_0, .int .i64 a0_1, .int .i64 a0_2, .int .i64 a0_3, .int .i64 a0_4, .slice A0_5 l0_5.length c0_5, .slice A0_6 l0_6.length c0_6]) (t := 42) (by first | (go_simp; done) | (go_simp; rfl)) ?_; intro gb462 hg w18 hbox hb; have BK462 := Aside0.mk (hbox); have GW462 := gs HB hg; have GE462 := gs HB hg; replace HB := Aside0.mk (below_step (bl HB) hb); clear hb hbox hg) | ((with_reducible refine gate_dst (N := 3) rfl ?_); refine box_event rfl (N := 3) rfl (cs := #[.int .i64 a1_0, .int .i64 a1_1, .int .i64 a1_2, .int .i64 a1_3, .int .i64 a1_4, .slice A1_5 l1_5.length c1_5, .slice A1_6 l1_6.length c1_6]) (t := 42) (by first | (go_simp; done) | (go_simp; rfl)) ?_; intro gb463 hg w19 hbox hb; have BK463 := Aside0.mk (hbox); have GW463 := gl HB hg (by simp [ag, GE462.out]); have GE463 := gl HB hg (by simp [ag, GE462.out]); replace HB := Aside0.mk (below_step (bs HB (by simp [ag, GE462.out])) hb); have NB462_463 := nl BK462 hg; have NB463_462 := nt BK462 hg; replace BK462 := Aside0.mk (bb BK462 hb); clear hb hbox hg; have hnb20 := NB462_463.out; have hnc20 := NB463_462.out; obtain ⟨hcz21_0, hcz21_1, hcz21_2, hcz21_3, hcz21_4, hcz21_5, hcz21_6, hfz21_0, hfz21_1, hfz21_2, hfz21_3, hfz21_4, hfz21_5, hfz21_6⟩ := cf7 BK462; obtain ⟨hcz22_0, hcz22_1, hcz22_2, hcz22_3, hcz22_4, hcz22_5, hcz22_6, hfz22_0, hfz22_1, hfz22_2, hfz22_3, hfz22_4, hfz22_5, hfz22_6⟩ := cf7 BK463) | ((with_reducible refine gate_dst (N := 5) rfl ?_); refine box_event rfl (N := 5) rfl (cs := #[.int .i64 0, .int .i64 0, .int .i64 0, .int .i64 0, .int .i64 0]) (t := 81) (by first | (go_simp; done) | (go_simp; rfl)) ?_; intro gb464 hg w23 hbox hb; have BK464 := Aside0.mk (hbox); have GW464 := gl HB hg (by simp [ag, GE462.out, GE463.out]); have GE464 := gl HB hg (by simp [ag, GE462.out, GE463.out]); replace HB := Aside0.mk (below_step (bs HB (by simp [ag, GE462.out, GE463.out])) hb); have NB462_464 := nl BK462 hg; have NB464_462 := nt BK462 hg; replace BK462 := Aside0.mk (bb BK462 hb); have NB463_464 := nl BK463 hg; have NB464_463 := nt BK463 hg; replace BK463 := Aside0.mk (bb BK463 hb); clear hb hbox hg; have hnb24 := NB464_462.out; have hnc24 := NB462_464.out; have hnb25 := NB464_463.out; have hnc25 := NB463_464.out; obtain ⟨hcz26_0, hcz26_1, hcz26_2, hcz26_3, hcz26_4, hfz26_0, hfz26_1, hfz26_2, hfz26_3, hfz26_4⟩ := cf5 BK464; obtain ⟨hcz27_0, hcz27_1, hcz27_2, hcz27_3, hcz27_4, hcz27_5, hcz27_6, hfz27_0, hfz27_1, hfz27_2, hfz27_3, hfz27_4, hfz27_5, hfz27_6⟩ := cf7 BK462; obtain ⟨hcz28_0, hcz28_1, hcz28_2, hcz28_3, hcz28_4, hcz28_5, hcz28_6, hfz28_0, hfz28_1, hfz28_2, hfz28_3, hfz28_4, hfz28_5, hfz28_6⟩ := cf7 BK463) | (go_at_call 61; (with_reducible refine (slices_Equal_int_int.calls k _ _ l0_5 _ _ l1_5 false _ ?side1 ?side2 ?side3 ?side4 A4.out).mono ?_); (case side1 => exact Kd.C_below HR0_5.out (bs HB (by simp [ag, GE462.out, GE463.out, GE464.out]))); (case side2 => exact HC0_5.out); (case side3 => exact Kd.C_below HR1_5.out (bs HB (by simp [ag, GE462.out, GE463.out, GE464.out]))); (case side4 => exact HC1_5.out); rintro e w' ⟨rfl, ⟨nd, rfl⟩⟩))
   go_ret
   exact ⟨by first | rfl | (simp [errW_none, errW_some] <;> rfl) | (simp [*, errW_none, errW_some] <;> rfl), bs HB (by simp [ag, GE462.out, GE463.out, GE464.out])⟩
 ·rw [if_neg c3] at H
  have c3b0 : (d0 == 0 && (d1 == 0 && (d2 == 0 && (d3 == 0 && (d4 == 0))))) = false := by simpa using c3
  (try (have c3b1 : decide (d0 = 0 && (d1 == 0 && (d2 == 0 && (d3 == 0 && (d4 == 0))))) = false := by simpa using c3))
  (try (have c3b2 : (d0 == 0 && (d1 == 0 && (d2 == 0 && (d3 == 0 && (d4 == 0))))) = false := by simpa using c3))
  (try (have c3b3 : ¬ (d0 = 0 && (d1 == 0 && (d2 == 0 && (d3 == 0 && (d4 == 0))))) := by simpa using c3))
  clear c3
  obtain rfl := Option.some.inj H
  go_enter Try.func28, Try.ntmps28
  go_wp2_with (first | ((with_reducible refine gate_dst (N := 2) rfl ?_); refine box_event rfl (N := 2) rfl (cs := #[.int .i64 a0_0, .int .i64 a0_1, .int .i64 a0_2, .int .i64 a0_3, .int .i64 a0_4, .slice A0_5 l0_5.length c0_5, .slice A0_6 l0_6.length c0_6]) (t := 42) (by first | (go_simp; done) | (go_simp; rfl)) ?_; intro gb462 hg w29 hbox hb; have BK462 := Aside0.mk (hbox); have GW462 := gs HB hg; have GE462 := gs HB hg; replace HB := Aside0.mk (below_step (bl HB) hb); clear hb hbox hg) | ((with_reducible refine gate_dst (N := 3) rfl ?_); refine box_event rfl (N := 3) rfl (cs := #[.int .i64 a1_0, .int .i64 a1_1, .int .i64 a1_2, .int .i64 a1_3, .int .i64 a1_4, .slice A1_5 l1_5.length c1_5, .slice A1_6 l1_6.length c1_6]) (t := 42) (by first | (go_simp; done) | (go_simp; rfl)) ?_; intro gb463 hg w30 hbox hb; have BK463 := Aside0.mk (hbox); have GW463 := gl HB hg (by simp [ag, GE462.out]); have GE463 := gl HB hg (by simp [ag, GE462.out]); replace HB := Aside0.mk (below_step (bs HB (by simp [ag, GE462.out])) hb); have NB462_463 := nl BK462 hg; have NB463_462 := nt BK462 hg; replace BK462 := Aside0.mk (bb BK462 hb); clear hb hbox hg; have hnb31 := NB462_463.out; have hnc31 := NB463_462.out; obtain ⟨hcz32_0, hcz32_1, hcz32_2, hcz32_3, hcz32_4, hcz32_5, hcz32_6, hfz32_0, hfz32_1, hfz32_2, hfz32_3, hfz32_4, hfz32_5, hfz32_6⟩ := cf7 BK462; obtain ⟨hcz33_0, hcz33_1, hcz33_2, hcz33_3, hcz33_4, hcz33_5, hcz33_6, hfz33_0, hfz33_1, hfz33_2, hfz33_3, hfz33_4, hfz33_5, hfz33_6⟩ := cf7 BK463) | ((with_reducible refine gate_dst (N := 5) rfl ?_); refine box_event rfl (N := 5) rfl (cs := #[.int .i64 0, .int .i64 0, .int .i64 0, .int .i64 0, .int .i64 0]) (t := 81) (by first | (go_simp; done) | (go_simp; rfl)) ?_; intro gb464 hg w34 hbox hb; have BK464 := Aside0.mk (hbox); have GW464 := gl HB hg (by simp [ag, GE462.out, GE463.out]); have GE464 := gl HB hg (by simp [ag, GE462.out, GE463.out]); replace HB := Aside0.mk (below_step (bs HB (by simp [ag, GE462.out, GE463.out])) hb); have NB462_464 := nl BK462 hg; have NB464_462 := nt BK462 hg; replace BK462 := Aside0.mk (bb BK462 hb); have NB463_464 := nl BK463 hg; have NB464_463 := nt BK463 hg; replace BK463 := Aside0.mk (bb BK463 hb); clear hb hbox hg; have hnb35 := NB464_462.out; have hnc35 := NB462_464.out; have hnb36 := NB464_463.out; have hnc36 := NB463_464.out; obtain ⟨hcz37_0, hcz37_1, hcz37_2, hcz37_3, hcz37_4, hfz37_0, hfz37_1, hfz37_2, hfz37_3, hfz37_4⟩ := cf5 BK464))
  go_ret
  exact ⟨by first | rfl | (simp [errW_none, errW_some] <;> rfl) | (simp [*, errW_none, errW_some] <;> rfl), bs HB (by simp [ag, GE462.out, GE463.out, GE464.out])⟩

-- NOT PRINTED: function 6 (selvedgelaw18_CylCounts)

end Go.Proofs.Ytehjmmedghcndaa.PG
