import Derived.Test.YtehjmmedghcndaaPGx0
import Derived.Test.YtehjmmedghcndaaGB
import Derived.Test.YtehjmmedghcndaaCL
import Derived.Test.YtehjmmedghcndaaGA
namespace Go.Proofs.Ytehjmmedghcndaa.PG
open Go.RowKit Go.Proofs.YtehjmmedghcndaaW.PrintWords Go.Proofs.YtehjmmedghcndaaW.PrintLast Go.Proofs.YtehjmmedghcndaaW.PrintMore
attribute [local go_sem] max2_int min2_int max_two min_two max_three min_three max_four min_four run_store_one   -- for this text's walks alone
set_option linter.unusedVariables false
set_option linter.unusedSimpArgs false
/-! ### selvedgelaw18_CylSpreads: function 4 -/
mutual
def selvedgelaw18_CylSpreads.l0 : Nat → Int → List (S42) → Int → Option (Bool)
 | 0, _, _, _ => none
 | k + 1, x2, x7, x8 => if x8 < (Int.tmod (wrap64 (x2)) 20) then (selvedgelaw18_CylSpreads.j1 k x2 x7 x8 (decide ((x7.length : Int) > 0))) else (selvedgelaw18_CylSpreads.j1 k x2 x7 x8 false)
def selvedgelaw18_CylSpreads.j1 : Nat → Int → List (S42) → Int → Bool → Option (Bool)
 | 0, _, _, _, _ => none
 | k + 1, x2, x7, x8, x27 => if x27 = true then ((cyl_Free.f k x7).bind fun bt373 => ((cyl_Dir.f k x7).bind fun bt375 => (if bt373.2 = 0 then ((selvedgelaw18_live.f).bind fun t382 => (if t382 = true then (if bt375.2.2.2 = 4 then (some true) else (none)) else (none))) else (if bt375.2.2.2 = 0 then (if bt375.2.1 < 0 then (selvedgelaw18_CylSpreads.j2 k x2 x7 x8 bt373.2 bt375.1 true bt375.2.1 bt375.2.2.1) else (if bt375.2.1 ≥ (x7.length : Int) then (selvedgelaw18_CylSpreads.j2 k x2 x7 x8 bt373.2 bt375.1 true bt375.2.1 bt375.2.2.1) else (if 0 ≤ bt375.2.1 then (if bt375.2.1 < (x7.length : Int) then (if (x7.length : Int) = 0 then (none) else (selvedgelaw18_CylSpreads.j2 k x2 x7 x8 bt373.2 bt375.1 (decide (((rd_T42 x7 bt375.2.1).f3) < (wrap64 (Int.tdiv bt373.2 (x7.length : Int))))) bt375.2.1 bt375.2.2.1)) else (none)) else (none)))) else (selvedgelaw18_CylSpreads.j2 k x2 x7 x8 bt373.2 bt375.1 true bt375.2.1 bt375.2.2.1))))) else ((selvedgelaw18_live.f).bind fun t372 => (if t372 = true then (some true) else (none)))
def selvedgelaw18_CylSpreads.j2 : Nat → Int → List (S42) → Int → Int → List (S42) → Bool → Int → Int → Option (Bool)
 | 0, _, _, _, _, _, _, _, _ => none
 | k + 1, x2, x7, x8, x10, x11, x74, x382000, x382001 => if x74 = true then (none) else (selvedgelaw18_CylSpreads.l1 k x2 x7 x8 x10 x11 0 x382000 x382001)
def selvedgelaw18_CylSpreads.l1 : Nat → Int → List (S42) → Int → Int → List (S42) → Int → Int → Int → Option (Bool)
 | 0, _, _, _, _, _, _, _, _ => none
 | k + 1, x2, x7, x8, x10, x11, x14, x382000, x382001 => if x14 < (x7.length : Int) then (if 0 ≤ x14 then (if ((rd_T42 x7 x14).f3) ≥ 1 then (if (x7.length : Int) = 0 then (none) else (if ((rd_T42 x7 x14).f3) ≥ (wrap64 (Int.tdiv x10 (x7.length : Int))) then (if 0 ≤ x382000 then (if x382000 < (x7.length : Int) then (if ((rd_T42 x7 x14).f2) > ((rd_T42 x7 x382000).f2) then (none) else (selvedgelaw18_CylSpreads.l1 k x2 x7 x8 x10 x11 (wrap64 (x14 + 1)) x382000 x382001)) else (none)) else (none)) else (selvedgelaw18_CylSpreads.l1 k x2 x7 x8 x10 x11 (wrap64 (x14 + 1)) x382000 x382001))) else (selvedgelaw18_CylSpreads.l1 k x2 x7 x8 x10 x11 (wrap64 (x14 + 1)) x382000 x382001)) else (none)) else (selvedgelaw18_CylSpreads.l0 k x2 x11 (wrap64 (x8 + 1)))
end
def selvedgelaw18_CylSpreads.f (k : Nat) (l0 : List Int) (l1 : List Int) (a2 : Int) : Option (Bool) := (selvedgelaw18_made.f k l0 l1).bind fun t369 => (selvedgelaw18_CylSpreads.l0 k a2 t369 0)
set_option maxHeartbeats 8000000 in
set_option maxRecDepth 100000 in
theorem selvedgelaw18_CylSpreads.calls (k : Nat) (A0 : Option Addr) (c0 : Nat) (l0 : List Int) (A1 : Option Addr) (c1 : Nat) (l1 : List Int) (a2 : Int) (r : Bool) (w : World) (hr0 : Kd.C (Kd.int .u8) w A0 l0.length l0) (hc0 : l0.length ≤ c0) (hr1 : Kd.C (Kd.int .u8) w A1 l1.length l1) (hc1 : l1.length ≤ c1) (h : selvedgelaw18_CylSpreads.f k l0 l1 a2 = some r) :
  Calls Try.prog 4 #[.slice A0 l0.length c0, .slice A1 l1.length c1, .int .u8 a2] w fun e w' => e = .returned (.bool r) ∧ Below w.heap.size w w' := by
 have hu24 := Try.underlying24
 have HR0 := Aside0.mk hr0
 have HC0 := Aside0.mk hc0
 clear hr0 hc0
 have HR1 := Aside0.mk hr1
 have HC1 := Aside0.mk hc1
 clear hr1 hc1
 have HB := Aside0.mk (Below.refl w.heap.size w)
 have H : ((selvedgelaw18_made.f k l0 l1).bind fun t369 => (selvedgelaw18_CylSpreads.l0 k a2 t369 0)) = some r := h
 clear h
 replace H := Option.bind_eq_some_iff.mp H
 obtain ⟨t369, A40, H⟩ := H
 try dsimp -implicitDefEqProofs -simprocs only at H
 have A4 := Aside0.mk A40
 clear A40
 have H' := Aside0.mk H
 clear H
 go_enter Try.func4, Try.ntmps4
 go_wp2_with (first | (go_at_call 21; (with_reducible refine (selvedgelaw18_made.calls k _ _ l0 _ _ l1 t369 _ ?side1 ?side2 ?side3 ?side4 A4.out).mono ?_); (case side1 => repeat (first | exact HR0.out | (with_reducible refine Kd.C_alloc ?_ _) | (with_reducible refine Kd.C_drewN ?_ _) | (with_reducible refine Kd.C_drew ?_))); (case side2 => exact HC0.out); (case side3 => repeat (first | exact HR1.out | (with_reducible refine Kd.C_alloc ?_ _) | (with_reducible refine Kd.C_drewN ?_ _) | (with_reducible refine Kd.C_drew ?_))); (case side4 => exact HC1.out); rintro e w5 ⟨v370, rfl, ho0, hb⟩; have hone_v370 := Kd.S_one ho0; have n0_ := Aside0.mk (Kd.S_lower ho0 (below_size (by repeat (first | (with_reducible first | exact HB.out | apply below_alloc | apply pw_below_drewN | apply below_drew1) | exact HB.out)))); have n1_ := Aside0.mk (below_step (by repeat (first | (with_reducible first | exact HB.out | apply below_alloc | apply pw_below_drewN | apply below_drew1) | exact HB.out)) hb); clear HB; have HO371 := n0_; have HB := n1_; clear n0_ n1_; (try clear hb); (try clear hb2); (try clear hk); (try clear hi); (try clear ho0)))
 repeat (go_quiet (first | (go_at_call 21; (with_reducible refine (selvedgelaw18_made.calls k _ _ l0 _ _ l1 t369 _ ?side1 ?side2 ?side3 ?side4 A4.out).mono ?_); (case side1 => repeat (first | exact HR0.out | (with_reducible refine Kd.C_alloc ?_ _) | (with_reducible refine Kd.C_drewN ?_ _) | (with_reducible refine Kd.C_drew ?_))); (case side2 => exact HC0.out); (case side3 => repeat (first | exact HR1.out | (with_reducible refine Kd.C_alloc ?_ _) | (with_reducible refine Kd.C_drewN ?_ _) | (with_reducible refine Kd.C_drew ?_))); (case side4 => exact HC1.out); rintro e w5 ⟨v370, rfl, ho0, hb⟩; have hone_v370 := Kd.S_one ho0; have n0_ := Aside0.mk (Kd.S_lower ho0 (below_size (by repeat (first | (with_reducible first | exact HB.out | apply below_alloc | apply pw_below_drewN | apply below_drew1) | exact HB.out)))); have n1_ := Aside0.mk (below_step (by repeat (first | (with_reducible first | exact HB.out | apply below_alloc | apply pw_below_drewN | apply below_drew1) | exact HB.out)) hb); clear HB; have HO371 := n0_; have HB := n1_; clear n0_ n1_; (try clear hb); (try clear hb2); (try clear hk); (try clear hi); (try clear ho0))); try go_wp2_with (first | (go_at_call 21; (with_reducible refine (selvedgelaw18_made.calls k _ _ l0 _ _ l1 t369 _ ?side1 ?side2 ?side3 ?side4 A4.out).mono ?_); (case side1 => repeat (first | exact HR0.out | (with_reducible refine Kd.C_alloc ?_ _) | (with_reducible refine Kd.C_drewN ?_ _) | (with_reducible refine Kd.C_drew ?_))); (case side2 => exact HC0.out); (case side3 => repeat (first | exact HR1.out | (with_reducible refine Kd.C_alloc ?_ _) | (with_reducible refine Kd.C_drewN ?_ _) | (with_reducible refine Kd.C_drew ?_))); (case side4 => exact HC1.out); rintro e w5 ⟨v370, rfl, ho0, hb⟩; have hone_v370 := Kd.S_one ho0; have n0_ := Aside0.mk (Kd.S_lower ho0 (below_size (by repeat (first | (with_reducible first | exact HB.out | apply below_alloc | apply pw_below_drewN | apply below_drew1) | exact HB.out)))); have n1_ := Aside0.mk (below_step (by repeat (first | (with_reducible first | exact HB.out | apply below_alloc | apply pw_below_drewN | apply below_drew1) | exact HB.out)) hb); clear HB; have HO371 := n0_; have HB := n1_; clear n0_ n1_; (try clear hb); (try clear hb2); (try clear hk); (try clear hi); (try clear ho0))))
 go_loopg [7, 8] k (fun kq v7 v8 w' => ∃ (x7_1 : List (S42)) (x8_1 : Int), v8 = .int .i64 x8_1 ∧ Aside0 (selvedgelaw18_CylSpreads.l0 kq a2 x7_1 x8_1 = some r) ∧ Aside0 (kq ≤ k) ∧ Aside0 (Kd.S k42 42 w' w.heap.size (fun _ => True) v7 x7_1) ∧ Aside0 (Below w.heap.size w w'))
 case atStart => exact ⟨(t369), (0), (by first | rfl | (simp; done) | (simp [*]; done)), H', ⟨Nat.le_refl _⟩, ⟨by (with_reducible repeat (first | apply Kd.S_alloc | apply Kd.S_drewN | apply Kd.S_drew)); exact HO371.out⟩, ⟨by repeat (first | (with_reducible first | exact HB.out | apply below_alloc | apply pw_below_drewN | apply below_drew1) | exact HB.out)⟩⟩
 case round =>
  clear H'
  try clear c1
  try clear p2
  try clear c4
  obtain ⟨x7_1, x8_1, rfl, HA, HK1, HO_7, HB⟩ := hrel
  cases gk with
  | zero => exact absurd HA.out (by simp [selvedgelaw18_CylSpreads.l0])
  | succ k1 =>
   have H := HA.out
   clear HA
   simp only [selvedgelaw18_CylSpreads.l0] at H
   have HC6 := Aside0.mk H
   clear H
   go_upto_region 3 with (fail)
   repeat (go_quiet (fail); go_upto_region 3 with (fail))
   go_cut [27] (fun v27 wc => ∃ (kq : Nat) (x27_5 : Bool), v27 = .bool x27_5 ∧ Aside0 (selvedgelaw18_CylSpreads.j1 kq a2 x7_1 x8_1 x27_5 = some r) ∧ Aside0 (kq ≤ k1) ∧ Aside0 (Kd.S k42 42 wc w.heap.size (fun _ => True) u7 x7_1) ∧ Aside0 (Below w.heap.size w wc))
   case first =>
    have H := HC6.out
    clear HC6
    by_cases c7 : x8_1 < (Int.tmod (wrap64 (a2)) 20)
    ·rw [if_pos c7] at H
     have c7b0 : decide (x8_1 < (Int.tmod (wrap64 (a2)) 20)) = true := decide_eq_true c7
     clear c7
     (first | rw [c7b0] | (simp only [i64_w, i32_w]; rw [c7b0]) | skip)
     have H' := Aside0.mk H
     clear H
     obtain ⟨Ao8, co8, eo8⟩ := Kd.S_slice HO_7.out
     subst eo8
     go_wp2
     repeat (go_quiet (fail); try go_wp2)
     go_meet
     case rel => exact ⟨_, (decide ((x7_1.length : Int) > 0)), (by first | rfl | (simp; done) | (simp [*]; done)), H', ⟨by have := HK1.out; first | omega | exact Nat.le_refl _⟩, ⟨by (with_reducible repeat (first | apply Kd.S_alloc | apply Kd.S_drewN | apply Kd.S_drew)); exact HO_7.out⟩, ⟨by repeat (first | (with_reducible first | exact HB.out | apply below_alloc | apply pw_below_drewN | apply below_drew1) | exact HB.out)⟩⟩
    ·rw [if_neg c7] at H
     have c7b0 : decide (x8_1 < (Int.tmod (wrap64 (a2)) 20)) = false := decide_eq_false c7
     clear c7
     (first | rw [c7b0] | (simp only [i64_w, i32_w]; rw [c7b0]) | skip)
     have H' := Aside0.mk H
     clear H
     go_wp2
     repeat (go_quiet (fail); try go_wp2)
     go_meet
     case rel => exact ⟨_, (false), (by first | rfl | (simp; done) | (simp [*]; done)), H', ⟨by have := HK1.out; first | omega | exact Nat.le_refl _⟩, ⟨by (with_reducible repeat (first | apply Kd.S_alloc | apply Kd.S_drewN | apply Kd.S_drew)); exact HO_7.out⟩, ⟨by repeat (first | (with_reducible first | exact HB.out | apply below_alloc | apply pw_below_drewN | apply below_drew1) | exact HB.out)⟩⟩
   case rest =>
    clear HC6
    try clear c1
    try clear p2
    try clear c4
    try clear p6
    try clear c7
    try clear c7b0
    try clear p2
    obtain ⟨kq, x27_5, rfl, HA, HJ5, HO_7, HB⟩ := hcut
    cases kq with
    | zero => exact absurd HA.out (by simp [selvedgelaw18_CylSpreads.j1])
    | succ kj5 =>
     have H := HA.out
     clear HA
     simp only [selvedgelaw18_CylSpreads.j1] at H
     by_cases c9 : x27_5 = true
     ·subst c9
      have H1 : ((cyl_Free.f kj5 x7_1).bind fun bt373 => ((cyl_Dir.f kj5 x7_1).bind fun bt375 => (if bt373.2 = 0 then ((selvedgelaw18_live.f).bind fun t382 => (if t382 = true then (if bt375.2.2.2 = 4 then (some true) else (none)) else (none))) else (if bt375.2.2.2 = 0 then (if bt375.2.1 < 0 then (selvedgelaw18_CylSpreads.j2 kj5 a2 x7_1 x8_1 bt373.2 bt375.1 true bt375.2.1 bt375.2.2.1) else (if bt375.2.1 ≥ (x7_1.length : Int) then (selvedgelaw18_CylSpreads.j2 kj5 a2 x7_1 x8_1 bt373.2 bt375.1 true bt375.2.1 bt375.2.2.1) else (if 0 ≤ bt375.2.1 then (if bt375.2.1 < (x7_1.length : Int) then (if (x7_1.length : Int) = 0 then (none) else (selvedgelaw18_CylSpreads.j2 kj5 a2 x7_1 x8_1 bt373.2 bt375.1 (decide (((rd_T42 x7_1 bt375.2.1).f3) < (wrap64 (Int.tdiv bt373.2 (x7_1.length : Int))))) bt375.2.1 bt375.2.2.1)) else (none)) else (none)))) else (selvedgelaw18_CylSpreads.j2 kj5 a2 x7_1 x8_1 bt373.2 bt375.1 true bt375.2.1 bt375.2.2.1))))) = some r := by rw [if_pos rfl] at H; exact H
      clear H
      have H := H1
      clear H1
      replace H := Option.bind_eq_some_iff.mp H
      obtain ⟨⟨t373, t374⟩, A100, H⟩ := H
      try dsimp -implicitDefEqProofs -simprocs only at H
      have A10 := Aside0.mk A100
      clear A100
      replace H := Option.bind_eq_some_iff.mp H
      obtain ⟨⟨t375, t378, t379, t380⟩, A110, H⟩ := H
      try dsimp -implicitDefEqProofs -simprocs only at H
      have A11 := Aside0.mk A110
      clear A110
      by_cases c12 : t374 = 0
      ·rw [if_pos c12] at H
       have c12b0 : (t374 == 0) = true := beq_iff_eq.mpr c12
       have c12b1 : (t374 != 0) = false := bne_eq_false_iff_eq.mpr c12
       clear c12
       replace H := Option.bind_eq_some_iff.mp H
       obtain ⟨t382, A130, H⟩ := H
       try dsimp -implicitDefEqProofs -simprocs only at H
       have A13 := Aside0.mk A130
       clear A130
       by_cases c14 : t382 = true
       ·subst c14
        have H1 : (if t380 = 4 then (some true) else (none)) = some r := by rw [if_pos rfl] at H; exact H
        clear H
        have H := H1
        clear H1
        by_cases c15 : t380 = 4
        ·rw [if_pos c15] at H
         have c15b0 : (t380 == 4) = true := beq_iff_eq.mpr c15
         have c15b1 : (t380 != 4) = false := bne_eq_false_iff_eq.mpr c15
         clear c15
         obtain rfl := Option.some.inj H
         obtain ⟨Ao16, co16, eo16⟩ := Kd.S_slice HO_7.out
         subst eo16
         go_wp2_with (first | (go_at_call 22; (with_reducible refine (cyl_Free.calls kj5 _ _ x7_1 t373 t374 _ ?side1 ?side2 A10.out).mono ?_); (case side1 => repeat (first | exact (Kd.S_reads' HO_7.out).2.2 | (with_reducible refine Kd.C_alloc ?_ _) | (with_reducible refine Kd.C_drewN ?_ _) | (with_reducible refine Kd.C_drew ?_))); (case side2 => exact (Kd.S_reads' HO_7.out).2.1); rintro e w17 ⟨rfl, hb⟩; have n0_ := Aside0.mk (Kd.S_below (by (with_reducible repeat (first | apply Kd.S_alloc | apply Kd.S_drewN | apply Kd.S_drew)); exact HO_7.out) hb); have n1_ := Aside0.mk (below_step (by repeat (first | (with_reducible first | exact HB.out | apply below_alloc | apply pw_below_drewN | apply below_drew1) | exact HB.out)) hb); clear HO_7; clear HB; have HO_7 := n0_; have HB := n1_; clear n0_ n1_; (try clear hb); (try clear hb2); (try clear hk); (try clear hi)) | (go_at_call 23; (with_reducible refine (cyl_Dir.calls kj5 _ _ x7_1 t375 t378 t379 t380 _ ?side1 ?side2 A11.out).mono ?_); (case side1 => repeat (first | exact (Kd.S_reads' HO_7.out).2.2 | (with_reducible refine Kd.C_alloc ?_ _) | (with_reducible refine Kd.C_drewN ?_ _) | (with_reducible refine Kd.C_drew ?_))); (case side2 => exact (Kd.S_reads' HO_7.out).2.1); rintro e w18 ⟨v376, rfl, ho0, hb⟩; have hone_v376 := Kd.S_one ho0; have n0_ := Aside0.mk (Kd.S_elder' (by (with_reducible repeat (first | apply Kd.S_alloc | apply Kd.S_drewN | apply Kd.S_drew)); exact HO_7.out) (Kd.S_base ho0) hb); have n1_ := Aside0.mk (Kd.S_lower (Kd.S_new' ho0 (Kd.S_lt (by (with_reducible repeat (first | apply Kd.S_alloc | apply Kd.S_drewN | apply Kd.S_drew)); exact HO_7.out))) (below_size (by repeat (first | (with_reducible first | exact HB.out | apply below_alloc | apply pw_below_drewN | apply below_drew1) | exact HB.out)))); have n2_ := Aside0.mk (below_step (by repeat (first | (with_reducible first | exact HB.out | apply below_alloc | apply pw_below_drewN | apply below_drew1) | exact HB.out)) hb); clear HO_7; clear HB; have HO_7 := n0_; have HO377 := n1_; have HB := n2_; clear n0_ n1_ n2_; (try clear hb); (try clear hb2); (try clear hk); (try clear hi); (try clear ho0)) | ((with_reducible refine gate_dst (N := 12) rfl ?_); (try (refine gate_guard (by rfl) ?_; dsimp only)); refine box_event ?hg (N := 12) ?hd (cs := #[.int .i64 0, .int .i64 0]) (t := 24) ?hr ?_; (case hd => rfl); (case hg => rfl); (case hr => first | (go_simp; done) | (go_simp; rfl)); intro gb381 hg w19 hbox hb; have n0_ := Aside0.mk (Kd.S_below (by (with_reducible repeat (first | apply Kd.S_alloc | apply Kd.S_drewN | apply Kd.S_drew)); exact HO_7.out) hb); have n1_ := Aside0.mk (Kd.S_below (by (with_reducible repeat (first | apply Kd.S_alloc | apply Kd.S_drewN | apply Kd.S_drew)); exact HO377.out) hb); have n2_ := Aside0.mk (below_step (by repeat (first | (with_reducible first | exact HB.out | apply below_alloc | apply pw_below_drewN | apply below_drew1) | exact HB.out)) hb); have n3_ := Aside0.mk (hbox); have n4_ := Aside0.mk ((by rw [hg]; exact (below_size (by repeat (first | (with_reducible first | exact HB.out | apply below_alloc | apply pw_below_drewN | apply below_drew1) | exact HB.out))) : w.heap.size ≤ gb381)); have n5_ := Aside0.mk ((by rw [hg]; exact (below_size (by repeat (first | (with_reducible first | exact HB.out | apply below_alloc | apply pw_below_drewN | apply below_drew1) | exact HB.out))) : w.heap.size ≤ gb381)); clear HO_7; clear HO377; clear HB; have HO_7 := n0_; have HO377 := n1_; have HB := n2_; have BK381 := n3_; have GW381 := n4_; have GE381 := n5_; clear n0_ n1_ n2_ n3_ n4_ n5_; clear hb hbox hg; have hcz20_0 : w19.cell? ⟨gb381, 0, none⟩ = some (.int .i64 0) := (blk_cell BK381.out 0).trans rfl; have hcz20_1 : w19.cell? ⟨gb381, 1, none⟩ = some (.int .i64 0) := (blk_cell BK381.out 1).trans rfl; have hfz20_0 := blk_frozen BK381.out 0; have hfz20_1 := blk_frozen BK381.out 1) | (go_at_call 17; (with_reducible refine (selvedgelaw18_live.calls  true _ A13.out).mono ?_); rintro e w21 ⟨rfl, hb⟩; have n0_ := Aside0.mk (Kd.S_below (by (with_reducible repeat (first | apply Kd.S_alloc | apply Kd.S_drewN | apply Kd.S_drew)); exact (Kd.S_mono (Kd.S_far (p := ⟨gb381, 1, none⟩) (Kd.S_far (p := ⟨gb381, 0, none⟩) (Kd.S_types HO_7.out BK381.out (by decide)) (fun _ hk => hk.2) (.int .i64 t378)) (fun _ hk => hk.2) (.int .i64 t379)) (fun _ h_ => h_.1))) hb); have n1_ := Aside0.mk (Kd.S_below (by (with_reducible repeat (first | apply Kd.S_alloc | apply Kd.S_drewN | apply Kd.S_drew)); exact (Kd.S_mono (Kd.S_far (p := ⟨gb381, 1, none⟩) (Kd.S_far (p := ⟨gb381, 0, none⟩) (Kd.S_types HO377.out BK381.out (by decide)) (fun _ hk => hk.2) (.int .i64 t378)) (fun _ hk => hk.2) (.int .i64 t379)) (fun _ h_ => h_.1))) hb); have n2_ := Aside0.mk (blk_below (g := gb381) (o := .cells #[.int .i64 t378, .int .i64 t379] 24 (0, 0)) (by (with_reducible repeat (first | refine blk_drewN ?_ _ | refine blk_drew ?_ | refine blk_alloc ?_ _)); refine blk_put (cs := #[.int .i64 t378, .int .i64 0]) ?_ 1 _ rfl; (with_reducible repeat (first | refine blk_drewN ?_ _ | refine blk_drew ?_ | refine blk_alloc ?_ _)); refine blk_put (cs := #[.int .i64 0, .int .i64 0]) ?_ 0 _ rfl; (with_reducible repeat (first | refine blk_drewN ?_ _ | refine blk_drew ?_ | refine blk_alloc ?_ _)); exact BK381.out) hb); have n3_ := Aside0.mk (below_step (by repeat (first | (with_reducible first | exact HB.out | apply below_alloc | apply pw_below_drewN | apply below_drew1 | refine below_set ?_ GE381.out) | exact HB.out)) hb); clear HO_7; clear HO377; clear BK381; clear HB; have HO_7 := n0_; have HO377 := n1_; have BK381 := n2_; have HB := n3_; clear n0_ n1_ n2_ n3_; (try clear hb); (try clear hb2); (try clear hk); (try clear hi)))
         repeat (go_quiet (first | (go_at_call 22; (with_reducible refine (cyl_Free.calls kj5 _ _ x7_1 t373 t374 _ ?side1 ?side2 A10.out).mono ?_); (case side1 => repeat (first | exact (Kd.S_reads' HO_7.out).2.2 | (with_reducible refine Kd.C_alloc ?_ _) | (with_reducible refine Kd.C_drewN ?_ _) | (with_reducible refine Kd.C_drew ?_))); (case side2 => exact (Kd.S_reads' HO_7.out).2.1); rintro e w17 ⟨rfl, hb⟩; have n0_ := Aside0.mk (Kd.S_below (by (with_reducible repeat (first | apply Kd.S_alloc | apply Kd.S_drewN | apply Kd.S_drew)); exact HO_7.out) hb); have n1_ := Aside0.mk (below_step (by repeat (first | (with_reducible first | exact HB.out | apply below_alloc | apply pw_below_drewN | apply below_drew1) | exact HB.out)) hb); clear HO_7; clear HB; have HO_7 := n0_; have HB := n1_; clear n0_ n1_; (try clear hb); (try clear hb2); (try clear hk); (try clear hi)) | (go_at_call 23; (with_reducible refine (cyl_Dir.calls kj5 _ _ x7_1 t375 t378 t379 t380 _ ?side1 ?side2 A11.out).mono ?_); (case side1 => repeat (first | exact (Kd.S_reads' HO_7.out).2.2 | (with_reducible refine Kd.C_alloc ?_ _) | (with_reducible refine Kd.C_drewN ?_ _) | (with_reducible refine Kd.C_drew ?_))); (case side2 => exact (Kd.S_reads' HO_7.out).2.1); rintro e w18 ⟨v376, rfl, ho0, hb⟩; have hone_v376 := Kd.S_one ho0; have n0_ := Aside0.mk (Kd.S_elder' (by (with_reducible repeat (first | apply Kd.S_alloc | apply Kd.S_drewN | apply Kd.S_drew)); exact HO_7.out) (Kd.S_base ho0) hb); have n1_ := Aside0.mk (Kd.S_lower (Kd.S_new' ho0 (Kd.S_lt (by (with_reducible repeat (first | apply Kd.S_alloc | apply Kd.S_drewN | apply Kd.S_drew)); exact HO_7.out))) (below_size (by repeat (first | (with_reducible first | exact HB.out | apply below_alloc | apply pw_below_drewN | apply below_drew1) | exact HB.out)))); have n2_ := Aside0.mk (below_step (by repeat (first | (with_reducible first | exact HB.out | apply below_alloc | apply pw_below_drewN | apply below_drew1) | exact HB.out)) hb); clear HO_7; clear HB; have HO_7 := n0_; have HO377 := n1_; have HB := n2_; clear n0_ n1_ n2_; (try clear hb); (try clear hb2); (try clear hk); (try clear hi); (try clear ho0)) | ((with_reducible refine gate_dst (N := 12) rfl ?_); (try (refine gate_guard (by rfl) ?_; dsimp only)); refine box_event ?hg (N := 12) ?hd (cs := #[.int .i64 0, .int .i64 0]) (t := 24) ?hr ?_; (case hd => rfl); (case hg => rfl); (case hr => first | (go_simp; done) | (go_simp; rfl)); intro gb381 hg w19 hbox hb; have n0_ := Aside0.mk (Kd.S_below (by (with_reducible repeat (first | apply Kd.S_alloc | apply Kd.S_drewN | apply Kd.S_drew)); exact HO_7.out) hb); have n1_ := Aside0.mk (Kd.S_below (by (with_reducible repeat (first | apply Kd.S_alloc | apply Kd.S_drewN | apply Kd.S_drew)); exact HO377.out) hb); have n2_ := Aside0.mk (below_step (by repeat (first | (with_reducible first | exact HB.out | apply below_alloc | apply pw_below_drewN | apply below_drew1) | exact HB.out)) hb); have n3_ := Aside0.mk (hbox); have n4_ := Aside0.mk ((by rw [hg]; exact (below_size (by repeat (first | (with_reducible first | exact HB.out | apply below_alloc | apply pw_below_drewN | apply below_drew1) | exact HB.out))) : w.heap.size ≤ gb381)); have n5_ := Aside0.mk ((by rw [hg]; exact (below_size (by repeat (first | (with_reducible first | exact HB.out | apply below_alloc | apply pw_below_drewN | apply below_drew1) | exact HB.out))) : w.heap.size ≤ gb381)); clear HO_7; clear HO377; clear HB; have HO_7 := n0_; have HO377 := n1_; have HB := n2_; have BK381 := n3_; have GW381 := n4_; have GE381 := n5_; clear n0_ n1_ n2_ n3_ n4_ n5_; clear hb hbox hg; have hcz20_0 : w19.cell? ⟨gb381, 0, none⟩ = some (.int .i64 0) := (blk_cell BK381.out 0).trans rfl; have hcz20_1 : w19.cell? ⟨gb381, 1, none⟩ = some (.int .i64 0) := (blk_cell BK381.out 1).trans rfl; have hfz20_0 := blk_frozen BK381.out 0; have hfz20_1 := blk_frozen BK381.out 1) | (go_at_call 17; (with_reducible refine (selvedgelaw18_live.calls  true _ A13.out).mono ?_); rintro e w21 ⟨rfl, hb⟩; have n0_ := Aside0.mk (Kd.S_below (by (with_reducible repeat (first | apply Kd.S_alloc | apply Kd.S_drewN | apply Kd.S_drew)); exact (Kd.S_mono (Kd.S_far (p := ⟨gb381, 1, none⟩) (Kd.S_far (p := ⟨gb381, 0, none⟩) (Kd.S_types HO_7.out BK381.out (by decide)) (fun _ hk => hk.2) (.int .i64 t378)) (fun _ hk => hk.2) (.int .i64 t379)) (fun _ h_ => h_.1))) hb); have n1_ := Aside0.mk (Kd.S_below (by (with_reducible repeat (first | apply Kd.S_alloc | apply Kd.S_drewN | apply Kd.S_drew)); exact (Kd.S_mono (Kd.S_far (p := ⟨gb381, 1, none⟩) (Kd.S_far (p := ⟨gb381, 0, none⟩) (Kd.S_types HO377.out BK381.out (by decide)) (fun _ hk => hk.2) (.int .i64 t378)) (fun _ hk => hk.2) (.int .i64 t379)) (fun _ h_ => h_.1))) hb); have n2_ := Aside0.mk (blk_below (g := gb381) (o := .cells #[.int .i64 t378, .int .i64 t379] 24 (0, 0)) (by (with_reducible repeat (first | refine blk_drewN ?_ _ | refine blk_drew ?_ | refine blk_alloc ?_ _)); refine blk_put (cs := #[.int .i64 t378, .int .i64 0]) ?_ 1 _ rfl; (with_reducible repeat (first | refine blk_drewN ?_ _ | refine blk_drew ?_ | refine blk_alloc ?_ _)); refine blk_put (cs := #[.int .i64 0, .int .i64 0]) ?_ 0 _ rfl; (with_reducible repeat (first | refine blk_drewN ?_ _ | refine blk_drew ?_ | refine blk_alloc ?_ _)); exact BK381.out) hb); have n3_ := Aside0.mk (below_step (by repeat (first | (with_reducible first | exact HB.out | apply below_alloc | apply pw_below_drewN | apply below_drew1 | refine below_set ?_ GE381.out) | exact HB.out)) hb); clear HO_7; clear HO377; clear BK381; clear HB; have HO_7 := n0_; have HO377 := n1_; have BK381 := n2_; have HB := n3_; clear n0_ n1_ n2_ n3_; (try clear hb); (try clear hb2); (try clear hk); (try clear hi))); try go_wp2_with (first | (go_at_call 22; (with_reducible refine (cyl_Free.calls kj5 _ _ x7_1 t373 t374 _ ?side1 ?side2 A10.out).mono ?_); (case side1 => repeat (first | exact (Kd.S_reads' HO_7.out).2.2 | (with_reducible refine Kd.C_alloc ?_ _) | (with_reducible refine Kd.C_drewN ?_ _) | (with_reducible refine Kd.C_drew ?_))); (case side2 => exact (Kd.S_reads' HO_7.out).2.1); rintro e w17 ⟨rfl, hb⟩; have n0_ := Aside0.mk (Kd.S_below (by (with_reducible repeat (first | apply Kd.S_alloc | apply Kd.S_drewN | apply Kd.S_drew)); exact HO_7.out) hb); have n1_ := Aside0.mk (below_step (by repeat (first | (with_reducible first | exact HB.out | apply below_alloc | apply pw_below_drewN | apply below_drew1) | exact HB.out)) hb); clear HO_7; clear HB; have HO_7 := n0_; have HB := n1_; clear n0_ n1_; (try clear hb); (try clear hb2); (try clear hk); (try clear hi)) | (go_at_call 23; (with_reducible refine (cyl_Dir.calls kj5 _ _ x7_1 t375 t378 t379 t380 _ ?side1 ?side2 A11.out).mono ?_); (case side1 => repeat (first | exact (Kd.S_reads' HO_7.out).2.2 | (with_reducible refine Kd.C_alloc ?_ _) | (with_reducible refine Kd.C_drewN ?_ _) | (with_reducible refine Kd.C_drew ?_))); (case side2 => exact (Kd.S_reads' HO_7.out).2.1); rintro e w18 ⟨v376, rfl, ho0, hb⟩; have hone_v376 := Kd.S_one ho0; have n0_ := Aside0.mk (Kd.S_elder' (by (with_reducible repeat (first | apply Kd.S_alloc | apply Kd.S_drewN | apply Kd.S_drew)); exact HO_7.out) (Kd.S_base ho0) hb); have n1_ := Aside0.mk (Kd.S_lower (Kd.S_new' ho0 (Kd.S_lt (by (with_reducible repeat (first | apply Kd.S_alloc | apply Kd.S_drewN | apply Kd.S_drew)); exact HO_7.out))) (below_size (by repeat (first | (with_reducible first | exact HB.out | apply below_alloc | apply pw_below_drewN | apply below_drew1) | exact HB.out)))); have n2_ := Aside0.mk (below_step (by repeat (first | (with_reducible first | exact HB.out | apply below_alloc | apply pw_below_drewN | apply below_drew1) | exact HB.out)) hb); clear HO_7; clear HB; have HO_7 := n0_; have HO377 := n1_; have HB := n2_; clear n0_ n1_ n2_; (try clear hb); (try clear hb2); (try clear hk); (try clear hi); (try clear ho0)) | ((with_reducible refine gate_dst (N := 12) rfl ?_); (try (refine gate_guard (by rfl) ?_; dsimp only)); refine box_event ?hg (N := 12) ?hd (cs := #[.int .i64 0, .int .i64 0]) (t := 24) ?hr ?_; (case hd => rfl); (case hg => rfl); (case hr => first | (go_simp; done) | (go_simp; rfl)); intro gb381 hg w19 hbox hb; have n0_ := Aside0.mk (Kd.S_below (by (with_reducible repeat (first | apply Kd.S_alloc | apply Kd.S_drewN | apply Kd.S_drew)); exact HO_7.out) hb); have n1_ := Aside0.mk (Kd.S_below (by (with_reducible repeat (first | apply Kd.S_alloc | apply Kd.S_drewN | apply Kd.S_drew)); exact HO377.out) hb); have n2_ := Aside0.mk (below_step (by repeat (first | (with_reducible first | exact HB.out | apply below_alloc | apply pw_below_drewN | apply below_drew1) | exact HB.out)) hb); have n3_ := Aside0.mk (hbox); have n4_ := Aside0.mk ((by rw [hg]; exact (below_size (by repeat (first | (with_reducible first | exact HB.out | apply below_alloc | apply pw_below_drewN | apply below_drew1) | exact HB.out))) : w.heap.size ≤ gb381)); have n5_ := Aside0.mk ((by rw [hg]; exact (below_size (by repeat (first | (with_reducible first | exact HB.out | apply below_alloc | apply pw_below_drewN | apply below_drew1) | exact HB.out))) : w.heap.size ≤ gb381)); clear HO_7; clear HO377; clear HB; have HO_7 := n0_; have HO377 := n1_; have HB := n2_; have BK381 := n3_; have GW381 := n4_; have GE381 := n5_; clear n0_ n1_ n2_ n3_ n4_ n5_; clear hb hbox hg; have hcz20_0 : w19.cell? ⟨gb381, 0, none⟩ = some (.int .i64 0) := (blk_cell BK381.out 0).trans rfl; have hcz20_1 : w19.cell? ⟨gb381, 1, none⟩ = some (.int .i64 0) := (blk_cell BK381.out 1).trans rfl; have hfz20_0 := blk_frozen BK381.out 0; have hfz20_1 := blk_frozen BK381.out 1) | (go_at_call 17; (with_reducible refine (selvedgelaw18_live.calls  true _ A13.out).mono ?_); rintro e w21 ⟨rfl, hb⟩; have n0_ := Aside0.mk (Kd.S_below (by (with_reducible repeat (first | apply Kd.S_alloc | apply Kd.S_drewN | apply Kd.S_drew)); exact (Kd.S_mono (Kd.S_far (p := ⟨gb381, 1, none⟩) (Kd.S_far (p := ⟨gb381, 0, none⟩) (Kd.S_types HO_7.out BK381.out (by decide)) (fun _ hk => hk.2) (.int .i64 t378)) (fun _ hk => hk.2) (.int .i64 t379)) (fun _ h_ => h_.1))) hb); have n1_ := Aside0.mk (Kd.S_below (by (with_reducible repeat (first | apply Kd.S_alloc | apply Kd.S_drewN | apply Kd.S_drew)); exact (Kd.S_mono (Kd.S_far (p := ⟨gb381, 1, none⟩) (Kd.S_far (p := ⟨gb381, 0, none⟩) (Kd.S_types HO377.out BK381.out (by decide)) (fun _ hk => hk.2) (.int .i64 t378)) (fun _ hk => hk.2) (.int .i64 t379)) (fun _ h_ => h_.1))) hb); have n2_ := Aside0.mk (blk_below (g := gb381) (o := .cells #[.int .i64 t378, .int .i64 t379] 24 (0, 0)) (by (with_reducible repeat (first | refine blk_drewN ?_ _ | refine blk_drew ?_ | refine blk_alloc ?_ _)); refine blk_put (cs := #[.int .i64 t378, .int .i64 0]) ?_ 1 _ rfl; (with_reducible repeat (first | refine blk_drewN ?_ _ | refine blk_drew ?_ | refine blk_alloc ?_ _)); refine blk_put (cs := #[.int .i64 0, .int .i64 0]) ?_ 0 _ rfl; (with_reducible repeat (first | refine blk_drewN ?_ _ | refine blk_drew ?_ | refine blk_alloc ?_ _)); exact BK381.out) hb); have n3_ := Aside0.mk (below_step (by repeat (first | (with_reducible first | exact HB.out | apply below_alloc | apply pw_below_drewN | apply below_drew1 | refine below_set ?_ GE381.out) | exact HB.out)) hb); clear HO_7; clear HO377; clear BK381; clear HB; have HO_7 := n0_; have HO377 := n1_; have BK381 := n2_; have HB := n3_; clear n0_ n1_ n2_ n3_; (try clear hb); (try clear hb2); (try clear hk); (try clear hi))))
         go_ret
         exact ⟨by first | rfl | (simp [errW_none, errW_some] <;> rfl) | (simp [*, errW_none, errW_some] <;> rfl), by repeat (first | (with_reducible first | exact HB.out | apply below_alloc | apply pw_below_drewN | apply below_drew1 | refine below_set ?_ GE381.out) | exact HB.out)⟩
        ·rw [if_neg c15] at H
         exact absurd H (by simp)
       ·replace c14 := Bool.eq_false_iff.mpr c14
        subst c14
        have H1 : (none) = some r := by rw [if_neg (show ¬ (false = true) by decide)] at H; exact H
        clear H
        have H := H1
        clear H1
        exact absurd H (by simp)
      ·rw [if_neg c12] at H
       have c12b0 : (t374 == 0) = false := beq_eq_false_iff_ne.mpr c12
       have c12b1 : (t374 != 0) = true := bne_iff_ne.mpr c12
       have HC22 := Aside0.mk H
       clear H
       obtain ⟨Ao23, co23, eo23⟩ := Kd.S_slice HO_7.out
       subst eo23
       go_upto_region 9 with (first | (go_at_call 22; (with_reducible refine (cyl_Free.calls kj5 _ _ x7_1 t373 t374 _ ?side1 ?side2 A10.out).mono ?_); (case side1 => repeat (first | exact (Kd.S_reads' HO_7.out).2.2 | (with_reducible refine Kd.C_alloc ?_ _) | (with_reducible refine Kd.C_drewN ?_ _) | (with_reducible refine Kd.C_drew ?_))); (case side2 => exact (Kd.S_reads' HO_7.out).2.1); rintro e w24 ⟨rfl, hb⟩; have n0_ := Aside0.mk (Kd.S_below (by (with_reducible repeat (first | apply Kd.S_alloc | apply Kd.S_drewN | apply Kd.S_drew)); exact HO_7.out) hb); have n1_ := Aside0.mk (below_step (by repeat (first | (with_reducible first | exact HB.out | apply below_alloc | apply pw_below_drewN | apply below_drew1) | exact HB.out)) hb); clear HO_7; clear HB; have HO_7 := n0_; have HB := n1_; clear n0_ n1_; (try clear hb); (try clear hb2); (try clear hk); (try clear hi)) | (go_at_call 23; (with_reducible refine (cyl_Dir.calls kj5 _ _ x7_1 t375 t378 t379 t380 _ ?side1 ?side2 A11.out).mono ?_); (case side1 => repeat (first | exact (Kd.S_reads' HO_7.out).2.2 | (with_reducible refine Kd.C_alloc ?_ _) | (with_reducible refine Kd.C_drewN ?_ _) | (with_reducible refine Kd.C_drew ?_))); (case side2 => exact (Kd.S_reads' HO_7.out).2.1); rintro e w25 ⟨v376, rfl, ho0, hb⟩; have hone_v376 := Kd.S_one ho0; have n0_ := Aside0.mk (Kd.S_elder' (by (with_reducible repeat (first | apply Kd.S_alloc | apply Kd.S_drewN | apply Kd.S_drew)); exact HO_7.out) (Kd.S_base ho0) hb); have n1_ := Aside0.mk (Kd.S_lower (Kd.S_new' ho0 (Kd.S_lt (by (with_reducible repeat (first | apply Kd.S_alloc | apply Kd.S_drewN | apply Kd.S_drew)); exact HO_7.out))) (below_size (by repeat (first | (with_reducible first | exact HB.out | apply below_alloc | apply pw_below_drewN | apply below_drew1) | exact HB.out)))); have n2_ := Aside0.mk (below_step (by repeat (first | (with_reducible first | exact HB.out | apply below_alloc | apply pw_below_drewN | apply below_drew1) | exact HB.out)) hb); clear HO_7; clear HB; have HO_7 := n0_; have HO377 := n1_; have HB := n2_; clear n0_ n1_ n2_; (try clear hb); (try clear hb2); (try clear hk); (try clear hi); (try clear ho0)) | ((with_reducible refine gate_dst (N := 12) rfl ?_); (try (refine gate_guard (by rfl) ?_; dsimp only)); refine box_event ?hg (N := 12) ?hd (cs := #[.int .i64 0, .int .i64 0]) (t := 24) ?hr ?_; (case hd => rfl); (case hg => rfl); (case hr => first | (go_simp; done) | (go_simp; rfl)); intro gb381 hg w26 hbox hb; have n0_ := Aside0.mk (Kd.S_below (by (with_reducible repeat (first | apply Kd.S_alloc | apply Kd.S_drewN | apply Kd.S_drew)); exact HO_7.out) hb); have n1_ := Aside0.mk (Kd.S_below (by (with_reducible repeat (first | apply Kd.S_alloc | apply Kd.S_drewN | apply Kd.S_drew)); exact HO377.out) hb); have n2_ := Aside0.mk (below_step (by repeat (first | (with_reducible first | exact HB.out | apply below_alloc | apply pw_below_drewN | apply below_drew1) | exact HB.out)) hb); have n3_ := Aside0.mk (hbox); have n4_ := Aside0.mk ((by rw [hg]; exact (below_size (by repeat (first | (with_reducible first | exact HB.out | apply below_alloc | apply pw_below_drewN | apply below_drew1) | exact HB.out))) : w.heap.size ≤ gb381)); have n5_ := Aside0.mk ((by rw [hg]; exact (below_size (by repeat (first | (with_reducible first | exact HB.out | apply below_alloc | apply pw_below_drewN | apply below_drew1) | exact HB.out))) : w.heap.size ≤ gb381)); clear HO_7; clear HO377; clear HB; have HO_7 := n0_; have HO377 := n1_; have HB := n2_; have BK381 := n3_; have GW381 := n4_; have GE381 := n5_; clear n0_ n1_ n2_ n3_ n4_ n5_; clear hb hbox hg; have hcz27_0 : w26.cell? ⟨gb381, 0, none⟩ = some (.int .i64 0) := (blk_cell BK381.out 0).trans rfl; have hcz27_1 : w26.cell? ⟨gb381, 1, none⟩ = some (.int .i64 0) := (blk_cell BK381.out 1).trans rfl; have hfz27_0 := blk_frozen BK381.out 0; have hfz27_1 := blk_frozen BK381.out 1))
       repeat (go_quiet (first | (go_at_call 22; (with_reducible refine (cyl_Free.calls kj5 _ _ x7_1 t373 t374 _ ?side1 ?side2 A10.out).mono ?_); (case side1 => repeat (first | exact (Kd.S_reads' HO_7.out).2.2 | (with_reducible refine Kd.C_alloc ?_ _) | (with_reducible refine Kd.C_drewN ?_ _) | (with_reducible refine Kd.C_drew ?_))); (case side2 => exact (Kd.S_reads' HO_7.out).2.1); rintro e w24 ⟨rfl, hb⟩; have n0_ := Aside0.mk (Kd.S_below (by (with_reducible repeat (first | apply Kd.S_alloc | apply Kd.S_drewN | apply Kd.S_drew)); exact HO_7.out) hb); have n1_ := Aside0.mk (below_step (by repeat (first | (with_reducible first | exact HB.out | apply below_alloc | apply pw_below_drewN | apply below_drew1) | exact HB.out)) hb); clear HO_7; clear HB; have HO_7 := n0_; have HB := n1_; clear n0_ n1_; (try clear hb); (try clear hb2); (try clear hk); (try clear hi)) | (go_at_call 23; (with_reducible refine (cyl_Dir.calls kj5 _ _ x7_1 t375 t378 t379 t380 _ ?side1 ?side2 A11.out).mono ?_); (case side1 => repeat (first | exact (Kd.S_reads' HO_7.out).2.2 | (with_reducible refine Kd.C_alloc ?_ _) | (with_reducible refine Kd.C_drewN ?_ _) | (with_reducible refine Kd.C_drew ?_))); (case side2 => exact (Kd.S_reads' HO_7.out).2.1); rintro e w25 ⟨v376, rfl, ho0, hb⟩; have hone_v376 := Kd.S_one ho0; have n0_ := Aside0.mk (Kd.S_elder' (by (with_reducible repeat (first | apply Kd.S_alloc | apply Kd.S_drewN | apply Kd.S_drew)); exact HO_7.out) (Kd.S_base ho0) hb); have n1_ := Aside0.mk (Kd.S_lower (Kd.S_new' ho0 (Kd.S_lt (by (with_reducible repeat (first | apply Kd.S_alloc | apply Kd.S_drewN | apply Kd.S_drew)); exact HO_7.out))) (below_size (by repeat (first | (with_reducible first | exact HB.out | apply below_alloc | apply pw_below_drewN | apply below_drew1) | exact HB.out)))); have n2_ := Aside0.mk (below_step (by repeat (first | (with_reducible first | exact HB.out | apply below_alloc | apply pw_below_drewN | apply below_drew1) | exact HB.out)) hb); clear HO_7; clear HB; have HO_7 := n0_; have HO377 := n1_; have HB := n2_; clear n0_ n1_ n2_; (try clear hb); (try clear hb2); (try clear hk); (try clear hi); (try clear ho0)) | ((with_reducible refine gate_dst (N := 12) rfl ?_); (try (refine gate_guard (by rfl) ?_; dsimp only)); refine box_event ?hg (N := 12) ?hd (cs := #[.int .i64 0, .int .i64 0]) (t := 24) ?hr ?_; (case hd => rfl); (case hg => rfl); (case hr => first | (go_simp; done) | (go_simp; rfl)); intro gb381 hg w26 hbox hb; have n0_ := Aside0.mk (Kd.S_below (by (with_reducible repeat (first | apply Kd.S_alloc | apply Kd.S_drewN | apply Kd.S_drew)); exact HO_7.out) hb); have n1_ := Aside0.mk (Kd.S_below (by (with_reducible repeat (first | apply Kd.S_alloc | apply Kd.S_drewN | apply Kd.S_drew)); exact HO377.out) hb); have n2_ := Aside0.mk (below_step (by repeat (first | (with_reducible first | exact HB.out | apply below_alloc | apply pw_below_drewN | apply below_drew1) | exact HB.out)) hb); have n3_ := Aside0.mk (hbox); have n4_ := Aside0.mk ((by rw [hg]; exact (below_size (by repeat (first | (with_reducible first | exact HB.out | apply below_alloc | apply pw_below_drewN | apply below_drew1) | exact HB.out))) : w.heap.size ≤ gb381)); have n5_ := Aside0.mk ((by rw [hg]; exact (below_size (by repeat (first | (with_reducible first | exact HB.out | apply below_alloc | apply pw_below_drewN | apply below_drew1) | exact HB.out))) : w.heap.size ≤ gb381)); clear HO_7; clear HO377; clear HB; have HO_7 := n0_; have HO377 := n1_; have HB := n2_; have BK381 := n3_; have GW381 := n4_; have GE381 := n5_; clear n0_ n1_ n2_ n3_ n4_ n5_; clear hb hbox hg; have hcz27_0 : w26.cell? ⟨gb381, 0, none⟩ = some (.int .i64 0) := (blk_cell BK381.out 0).trans rfl; have hcz27_1 : w26.cell? ⟨gb381, 1, none⟩ = some (.int .i64 0) := (blk_cell BK381.out 1).trans rfl; have hfz27_0 := blk_frozen BK381.out 0; have hfz27_1 := blk_frozen BK381.out 1)); go_upto_region 9 with (first | (go_at_call 22; (with_reducible refine (cyl_Free.calls kj5 _ _ x7_1 t373 t374 _ ?side1 ?side2 A10.out).mono ?_); (case side1 => repeat (first | exact (Kd.S_reads' HO_7.out).2.2 | (with_reducible refine Kd.C_alloc ?_ _) | (with_reducible refine Kd.C_drewN ?_ _) | (with_reducible refine Kd.C_drew ?_))); (case side2 => exact (Kd.S_reads' HO_7.out).2.1); rintro e w24 ⟨rfl, hb⟩; have n0_ := Aside0.mk (Kd.S_below (by (with_reducible repeat (first | apply Kd.S_alloc | apply Kd.S_drewN | apply Kd.S_drew)); exact HO_7.out) hb); have n1_ := Aside0.mk (below_step (by repeat (first | (with_reducible first | exact HB.out | apply below_alloc | apply pw_below_drewN | apply below_drew1) | exact HB.out)) hb); clear HO_7; clear HB; have HO_7 := n0_; have HB := n1_; clear n0_ n1_; (try clear hb); (try clear hb2); (try clear hk); (try clear hi)) | (go_at_call 23; (with_reducible refine (cyl_Dir.calls kj5 _ _ x7_1 t375 t378 t379 t380 _ ?side1 ?side2 A11.out).mono ?_); (case side1 => repeat (first | exact (Kd.S_reads' HO_7.out).2.2 | (with_reducible refine Kd.C_alloc ?_ _) | (with_reducible refine Kd.C_drewN ?_ _) | (with_reducible refine Kd.C_drew ?_))); (case side2 => exact (Kd.S_reads' HO_7.out).2.1); rintro e w25 ⟨v376, rfl, ho0, hb⟩; have hone_v376 := Kd.S_one ho0; have n0_ := Aside0.mk (Kd.S_elder' (by (with_reducible repeat (first | apply Kd.S_alloc | apply Kd.S_drewN | apply Kd.S_drew)); exact HO_7.out) (Kd.S_base ho0) hb); have n1_ := Aside0.mk (Kd.S_lower (Kd.S_new' ho0 (Kd.S_lt (by (with_reducible repeat (first | apply Kd.S_alloc | apply Kd.S_drewN | apply Kd.S_drew)); exact HO_7.out))) (below_size (by repeat (first | (with_reducible first | exact HB.out | apply below_alloc | apply pw_below_drewN | apply below_drew1) | exact HB.out)))); have n2_ := Aside0.mk (below_step (by repeat (first | (with_reducible first | exact HB.out | apply below_alloc | apply pw_below_drewN | apply below_drew1) | exact HB.out)) hb); clear HO_7; clear HB; have HO_7 := n0_; have HO377 := n1_; have HB := n2_; clear n0_ n1_ n2_; (try clear hb); (try clear hb2); (try clear hk); (try clear hi); (try clear ho0)) | ((with_reducible refine gate_dst (N := 12) rfl ?_); (try (refine gate_guard (by rfl) ?_; dsimp only)); refine box_event ?hg (N := 12) ?hd (cs := #[.int .i64 0, .int .i64 0]) (t := 24) ?hr ?_; (case hd => rfl); (case hg => rfl); (case hr => first | (go_simp; done) | (go_simp; rfl)); intro gb381 hg w26 hbox hb; have n0_ := Aside0.mk (Kd.S_below (by (with_reducible repeat (first | apply Kd.S_alloc | apply Kd.S_drewN | apply Kd.S_drew)); exact HO_7.out) hb); have n1_ := Aside0.mk (Kd.S_below (by (with_reducible repeat (first | apply Kd.S_alloc | apply Kd.S_drewN | apply Kd.S_drew)); exact HO377.out) hb); have n2_ := Aside0.mk (below_step (by repeat (first | (with_reducible first | exact HB.out | apply below_alloc | apply pw_below_drewN | apply below_drew1) | exact HB.out)) hb); have n3_ := Aside0.mk (hbox); have n4_ := Aside0.mk ((by rw [hg]; exact (below_size (by repeat (first | (with_reducible first | exact HB.out | apply below_alloc | apply pw_below_drewN | apply below_drew1) | exact HB.out))) : w.heap.size ≤ gb381)); have n5_ := Aside0.mk ((by rw [hg]; exact (below_size (by repeat (first | (with_reducible first | exact HB.out | apply below_alloc | apply pw_below_drewN | apply below_drew1) | exact HB.out))) : w.heap.size ≤ gb381)); clear HO_7; clear HO377; clear HB; have HO_7 := n0_; have HO377 := n1_; have HB := n2_; have BK381 := n3_; have GW381 := n4_; have GE381 := n5_; clear n0_ n1_ n2_ n3_ n4_ n5_; clear hb hbox hg; have hcz27_0 : w26.cell? ⟨gb381, 0, none⟩ = some (.int .i64 0) := (blk_cell BK381.out 0).trans rfl; have hcz27_1 : w26.cell? ⟨gb381, 1, none⟩ = some (.int .i64 0) := (blk_cell BK381.out 1).trans rfl; have hfz27_0 := blk_frozen BK381.out 0; have hfz27_1 := blk_frozen BK381.out 1)))
       (try simp only [Act.put, List.setIfInBounds_toArray, List.set_cons_zero, List.set_cons_succ])
       go_cut [74] (fun v74 wc => ∃ (kq : Nat) (x74_21 : Bool), v74 = .bool x74_21 ∧ Aside0 (selvedgelaw18_CylSpreads.j2 kq a2 x7_1 x8_1 t374 t375 x74_21 t378 t379 = some r) ∧ Aside0 (kq ≤ kj5) ∧ Aside0 (Kd.S k42 42 wc w.heap.size (fun k_ => some k_ ≠ (v376 : Value).ownBlock) (.slice Ao23 x7_1.length co23) x7_1) ∧ Aside0 (Kd.S k42 42 wc w.heap.size (fun k_ => some k_ ≠ ((.slice Ao23 x7_1.length co23) : Value).ownBlock) v376 t375) ∧ Aside0 (wc.heap[gb381]? = some (.cells #[.int .i64 t378, .int .i64 t379] 24 (0, 0))) ∧ Aside0 (Below w.heap.size w wc))
       case first =>
        have H := HC22.out
        clear HC22
        by_cases c28 : t380 = 0
        ·rw [if_pos c28] at H
         have c28b0 : (t380 == 0) = true := beq_iff_eq.mpr c28
         have c28b1 : (t380 != 0) = false := bne_eq_false_iff_eq.mpr c28
         clear c28
         (first | rw [c28b0] | (simp only [i64_w, i32_w]; rw [c28b0]) | skip)
         by_cases c29 : t378 < 0
         ·rw [if_pos c29] at H
          have c29b0 : decide (t378 < 0) = true := decide_eq_true c29
          clear c29
          have H' := Aside0.mk H
          clear H
          have hcz30_0 : w26.cell? ⟨gb381, 0, none⟩ = some (.int .i64 0) := (blk_cell BK381.out 0).trans rfl
          have hcz30_1 : w26.cell? ⟨gb381, 1, none⟩ = some (.int .i64 0) := (blk_cell BK381.out 1).trans rfl
          have hfz30_0 := blk_frozen BK381.out 0
          have hfz30_1 := blk_frozen BK381.out 1
          go_wp2
          repeat (go_quiet (fail); try go_wp2)
          go_meet
          case rel => exact ⟨_, (true), (by first | rfl | (simp; done) | (simp [*]; done)), H', ⟨by have := HK1.out; have := HJ5.out; first | omega | exact Nat.le_refl _⟩, ⟨by (with_reducible repeat (first | apply Kd.S_alloc | apply Kd.S_drewN | apply Kd.S_drew)); exact Kd.S_mono (Kd.S_far (p := ⟨gb381, 1, none⟩) (Kd.S_far (p := ⟨gb381, 0, none⟩) (Kd.S_types HO_7.out BK381.out (by decide)) (fun _ hk => hk.2) (.int .i64 t378)) (fun _ hk => hk.2) (.int .i64 t379)) (fun _ hk => hk.1.2)⟩, ⟨by (with_reducible repeat (first | apply Kd.S_alloc | apply Kd.S_drewN | apply Kd.S_drew)); exact Kd.S_mono (Kd.S_far (p := ⟨gb381, 1, none⟩) (Kd.S_far (p := ⟨gb381, 0, none⟩) (Kd.S_types HO377.out BK381.out (by decide)) (fun _ hk => hk.2) (.int .i64 t378)) (fun _ hk => hk.2) (.int .i64 t379)) (fun _ hk => hk.1.2)⟩, ⟨by (with_reducible repeat (first | refine blk_drewN ?_ _ | refine blk_drew ?_ | refine blk_alloc ?_ _)); refine blk_put (cs := #[.int .i64 t378, .int .i64 0]) ?_ 1 _ rfl; (with_reducible repeat (first | refine blk_drewN ?_ _ | refine blk_drew ?_ | refine blk_alloc ?_ _)); refine blk_put (cs := #[.int .i64 0, .int .i64 0]) ?_ 0 _ rfl; (with_reducible repeat (first | refine blk_drewN ?_ _ | refine blk_drew ?_ | refine blk_alloc ?_ _)); exact BK381.out⟩, ⟨by repeat (first | (with_reducible first | exact HB.out | apply below_alloc | apply pw_below_drewN | apply below_drew1 | refine below_set ?_ GE381.out) | exact HB.out)⟩⟩
         ·rw [if_neg c29] at H
          have c29b0 : decide (t378 < 0) = false := decide_eq_false c29
          clear c29
          by_cases c31 : t378 ≥ (x7_1.length : Int)
          ·rw [if_pos c31] at H
           have c31b0 : decide ((x7_1.length : Int) ≤ t378) = true := decide_eq_true c31
           clear c31
           have H' := Aside0.mk H
           clear H
           have hcz32_0 : w26.cell? ⟨gb381, 0, none⟩ = some (.int .i64 0) := (blk_cell BK381.out 0).trans rfl
           have hcz32_1 : w26.cell? ⟨gb381, 1, none⟩ = some (.int .i64 0) := (blk_cell BK381.out 1).trans rfl
           have hfz32_0 := blk_frozen BK381.out 0
           have hfz32_1 := blk_frozen BK381.out 1
           go_wp2
           repeat (go_quiet (fail); try go_wp2)
           go_meet
           case rel => exact ⟨_, (true), (by first | rfl | (simp; done) | (simp [*]; done)), H', ⟨by have := HK1.out; have := HJ5.out; first | omega | exact Nat.le_refl _⟩, ⟨by (with_reducible repeat (first | apply Kd.S_alloc | apply Kd.S_drewN | apply Kd.S_drew)); exact Kd.S_mono (Kd.S_far (p := ⟨gb381, 1, none⟩) (Kd.S_far (p := ⟨gb381, 0, none⟩) (Kd.S_types HO_7.out BK381.out (by decide)) (fun _ hk => hk.2) (.int .i64 t378)) (fun _ hk => hk.2) (.int .i64 t379)) (fun _ hk => hk.1.2)⟩, ⟨by (with_reducible repeat (first | apply Kd.S_alloc | apply Kd.S_drewN | apply Kd.S_drew)); exact Kd.S_mono (Kd.S_far (p := ⟨gb381, 1, none⟩) (Kd.S_far (p := ⟨gb381, 0, none⟩) (Kd.S_types HO377.out BK381.out (by decide)) (fun _ hk => hk.2) (.int .i64 t378)) (fun _ hk => hk.2) (.int .i64 t379)) (fun _ hk => hk.1.2)⟩, ⟨by (with_reducible repeat (first | refine blk_drewN ?_ _ | refine blk_drew ?_ | refine blk_alloc ?_ _)); refine blk_put (cs := #[.int .i64 t378, .int .i64 0]) ?_ 1 _ rfl; (with_reducible repeat (first | refine blk_drewN ?_ _ | refine blk_drew ?_ | refine blk_alloc ?_ _)); refine blk_put (cs := #[.int .i64 0, .int .i64 0]) ?_ 0 _ rfl; (with_reducible repeat (first | refine blk_drewN ?_ _ | refine blk_drew ?_ | refine blk_alloc ?_ _)); exact BK381.out⟩, ⟨by repeat (first | (with_reducible first | exact HB.out | apply below_alloc | apply pw_below_drewN | apply below_drew1 | refine below_set ?_ GE381.out) | exact HB.out)⟩⟩
          ·rw [if_neg c31] at H
           have c31b0 : decide ((x7_1.length : Int) ≤ t378) = false := decide_eq_false c31
           clear c31
           by_cases c33 : 0 ≤ t378
           ·rw [if_pos c33] at H
            have c33b0 : decide (0 ≤ t378) = true := decide_eq_true c33
            clear c33
            by_cases c34 : t378 < (x7_1.length : Int)
            ·rw [if_pos c34] at H
             have c34b0 : decide (t378 < (x7_1.length : Int)) = true := decide_eq_true c34
             clear c34
             by_cases c35 : (x7_1.length : Int) = 0
             ·rw [if_pos c35] at H
              exact absurd H (by simp)
             ·rw [if_neg c35] at H
              have c35b0 : ((x7_1.length : Int) == 0) = false := beq_eq_false_iff_ne.mpr c35
              have c35b1 : ((x7_1.length : Int) != 0) = true := bne_iff_ne.mpr c35
              have c35b2 : ¬ (x7_1 = []) := fun h_ => c35 (by rw [h_]; rfl)
              have H' := Aside0.mk H
              clear H
              have hcz36_0 : w26.cell? ⟨gb381, 0, none⟩ = some (.int .i64 0) := (blk_cell BK381.out 0).trans rfl
              have hcz36_1 : w26.cell? ⟨gb381, 1, none⟩ = some (.int .i64 0) := (blk_cell BK381.out 1).trans rfl
              have hfz36_0 := blk_frozen BK381.out 0
              have hfz36_1 := blk_frozen BK381.out 1
              have p383 : 0 ≤ (t378 : Int) := of_decide_eq_true (by first | (with_reducible assumption) | assumption)
              have q383 : t378 < (x7_1.length : Int) := of_decide_eq_true (by first | (with_reducible assumption) | assumption)
              obtain ⟨ad383, A383_5, c383_5, A383_6, c383_6, e383, hx383_0, hx383_1, hx383_2, hx383_3, hx383_4, hx383_5, hx383_6, hl383_5, hi383_5, hl383_6, hi383_6⟩ := at_T42 (Kd.S_reads' HO_7.out).2.2 t378 p383 q383
              cases e383
              have hn383_0 : ad383.block ≠ gb381 := Kd.own_blk (Kd.S_ne HO_7.out BK381.out (by decide))
              have hn383_1 : ad383.block ≠ gb381 := Kd.own_blk (Kd.S_ne HO_7.out BK381.out (by decide))
              have HR383_5 := Aside0.mk hi383_5
              have HC383_5 := Aside0.mk hl383_5
              clear hi383_5 hl383_5
              have HR383_6 := Aside0.mk hi383_6
              have HC383_6 := Aside0.mk hl383_6
              clear hi383_6 hl383_6
              replace hx383_0 := (cell_far (p := ⟨gb381, 0, none⟩) (by first | (rw [add_block]; exact hn383_0) | (show (Addr.add _ _).block ≠ _; rw [add_block]; exact hn383_0) | exact hn383_0) (.int .i64 t378)).trans hx383_0
              replace hx383_1 := (cell_far (p := ⟨gb381, 0, none⟩) (by first | (rw [add_block]; exact hn383_0) | (show (Addr.add _ _).block ≠ _; rw [add_block]; exact hn383_0) | exact hn383_0) (.int .i64 t378)).trans hx383_1
              replace hx383_2 := (cell_far (p := ⟨gb381, 0, none⟩) (by first | (rw [add_block]; exact hn383_0) | (show (Addr.add _ _).block ≠ _; rw [add_block]; exact hn383_0) | exact hn383_0) (.int .i64 t378)).trans hx383_2
              replace hx383_3 := (cell_far (p := ⟨gb381, 0, none⟩) (by first | (rw [add_block]; exact hn383_0) | (show (Addr.add _ _).block ≠ _; rw [add_block]; exact hn383_0) | exact hn383_0) (.int .i64 t378)).trans hx383_3
              replace hx383_4 := (cell_far (p := ⟨gb381, 0, none⟩) (by first | (rw [add_block]; exact hn383_0) | (show (Addr.add _ _).block ≠ _; rw [add_block]; exact hn383_0) | exact hn383_0) (.int .i64 t378)).trans hx383_4
              replace hx383_5 := (cell_far (p := ⟨gb381, 0, none⟩) (by first | (rw [add_block]; exact hn383_0) | (show (Addr.add _ _).block ≠ _; rw [add_block]; exact hn383_0) | exact hn383_0) (.int .i64 t378)).trans hx383_5
              replace hx383_6 := (cell_far (p := ⟨gb381, 0, none⟩) (by first | (rw [add_block]; exact hn383_0) | (show (Addr.add _ _).block ≠ _; rw [add_block]; exact hn383_0) | exact hn383_0) (.int .i64 t378)).trans hx383_6
              replace hx383_0 := (cell_far (p := ⟨gb381, 1, none⟩) (by first | (rw [add_block]; exact hn383_1) | (show (Addr.add _ _).block ≠ _; rw [add_block]; exact hn383_1) | exact hn383_1) (.int .i64 t379)).trans hx383_0
              replace hx383_1 := (cell_far (p := ⟨gb381, 1, none⟩) (by first | (rw [add_block]; exact hn383_1) | (show (Addr.add _ _).block ≠ _; rw [add_block]; exact hn383_1) | exact hn383_1) (.int .i64 t379)).trans hx383_1
              replace hx383_2 := (cell_far (p := ⟨gb381, 1, none⟩) (by first | (rw [add_block]; exact hn383_1) | (show (Addr.add _ _).block ≠ _; rw [add_block]; exact hn383_1) | exact hn383_1) (.int .i64 t379)).trans hx383_2
              replace hx383_3 := (cell_far (p := ⟨gb381, 1, none⟩) (by first | (rw [add_block]; exact hn383_1) | (show (Addr.add _ _).block ≠ _; rw [add_block]; exact hn383_1) | exact hn383_1) (.int .i64 t379)).trans hx383_3
              replace hx383_4 := (cell_far (p := ⟨gb381, 1, none⟩) (by first | (rw [add_block]; exact hn383_1) | (show (Addr.add _ _).block ≠ _; rw [add_block]; exact hn383_1) | exact hn383_1) (.int .i64 t379)).trans hx383_4
              replace hx383_5 := (cell_far (p := ⟨gb381, 1, none⟩) (by first | (rw [add_block]; exact hn383_1) | (show (Addr.add _ _).block ≠ _; rw [add_block]; exact hn383_1) | exact hn383_1) (.int .i64 t379)).trans hx383_5
              replace hx383_6 := (cell_far (p := ⟨gb381, 1, none⟩) (by first | (rw [add_block]; exact hn383_1) | (show (Addr.add _ _).block ≠ _; rw [add_block]; exact hn383_1) | exact hn383_1) (.int .i64 t379)).trans hx383_6
              (try have hy383_0 := fun (n_ : Nat) => (show ((((w26.drewN n_).setCell ⟨gb381, 0, none⟩ (.int .i64 t378)).setCell ⟨gb381, 1, none⟩ (.int .i64 t379))).cell? _ = some _ from hx383_0))
              (try have hy383_1 := fun (n_ : Nat) => (show ((((w26.drewN n_).setCell ⟨gb381, 0, none⟩ (.int .i64 t378)).setCell ⟨gb381, 1, none⟩ (.int .i64 t379))).cell? _ = some _ from hx383_1))
              (try have hy383_2 := fun (n_ : Nat) => (show ((((w26.drewN n_).setCell ⟨gb381, 0, none⟩ (.int .i64 t378)).setCell ⟨gb381, 1, none⟩ (.int .i64 t379))).cell? _ = some _ from hx383_2))
              (try have hy383_3 := fun (n_ : Nat) => (show ((((w26.drewN n_).setCell ⟨gb381, 0, none⟩ (.int .i64 t378)).setCell ⟨gb381, 1, none⟩ (.int .i64 t379))).cell? _ = some _ from hx383_3))
              (try have hy383_4 := fun (n_ : Nat) => (show ((((w26.drewN n_).setCell ⟨gb381, 0, none⟩ (.int .i64 t378)).setCell ⟨gb381, 1, none⟩ (.int .i64 t379))).cell? _ = some _ from hx383_4))
              (try have hy383_5 := fun (n_ : Nat) => (show ((((w26.drewN n_).setCell ⟨gb381, 0, none⟩ (.int .i64 t378)).setCell ⟨gb381, 1, none⟩ (.int .i64 t379))).cell? _ = some _ from hx383_5))
              (try have hy383_6 := fun (n_ : Nat) => (show ((((w26.drewN n_).setCell ⟨gb381, 0, none⟩ (.int .i64 t378)).setCell ⟨gb381, 1, none⟩ (.int .i64 t379))).cell? _ = some _ from hx383_6))
              clear hn383_0
              clear hn383_1
              replace p383 := eq_true p383
              replace q383 := eq_true q383
              go_wp2
              repeat (go_quiet (fail); try go_wp2)
              go_meet
              case rel => exact ⟨_, (decide (((rd_T42 x7_1 t378).f3) < (wrap64 (Int.tdiv t374 (x7_1.length : Int))))), (by first | rfl | (simp; done) | (simp [*]; done)), H', ⟨by have := HK1.out; have := HJ5.out; first | omega | exact Nat.le_refl _⟩, ⟨by (with_reducible repeat (first | apply Kd.S_alloc | apply Kd.S_drewN | apply Kd.S_drew)); exact Kd.S_mono (Kd.S_far (p := ⟨gb381, 1, none⟩) (Kd.S_far (p := ⟨gb381, 0, none⟩) (Kd.S_types HO_7.out BK381.out (by decide)) (fun _ hk => hk.2) (.int .i64 t378)) (fun _ hk => hk.2) (.int .i64 t379)) (fun _ hk => hk.1.2)⟩, ⟨by (with_reducible repeat (first | apply Kd.S_alloc | apply Kd.S_drewN | apply Kd.S_drew)); exact Kd.S_mono (Kd.S_far (p := ⟨gb381, 1, none⟩) (Kd.S_far (p := ⟨gb381, 0, none⟩) (Kd.S_types HO377.out BK381.out (by decide)) (fun _ hk => hk.2) (.int .i64 t378)) (fun _ hk => hk.2) (.int .i64 t379)) (fun _ hk => hk.1.2)⟩, ⟨by (with_reducible repeat (first | refine blk_drewN ?_ _ | refine blk_drew ?_ | refine blk_alloc ?_ _)); refine blk_put (cs := #[.int .i64 t378, .int .i64 0]) ?_ 1 _ rfl; (with_reducible repeat (first | refine blk_drewN ?_ _ | refine blk_drew ?_ | refine blk_alloc ?_ _)); refine blk_put (cs := #[.int .i64 0, .int .i64 0]) ?_ 0 _ rfl; (with_reducible repeat (first | refine blk_drewN ?_ _ | refine blk_drew ?_ | refine blk_alloc ?_ _)); exact BK381.out⟩, ⟨by repeat (first | (with_reducible first | exact HB.out | apply below_alloc | apply pw_below_drewN | apply below_drew1 | refine below_set ?_ GE381.out) | exact HB.out)⟩⟩
            ·rw [if_neg c34] at H
             exact absurd H (by simp)
           ·rw [if_neg c33] at H
            exact absurd H (by simp)
        ·rw [if_neg c28] at H
         have c28b0 : (t380 == 0) = false := beq_eq_false_iff_ne.mpr c28
         have c28b1 : (t380 != 0) = true := bne_iff_ne.mpr c28
         (first | rw [c28b0] | (simp only [i64_w, i32_w]; rw [c28b0]) | skip)
         have H' := Aside0.mk H
         clear H
         go_wp2
         repeat (go_quiet (fail); try go_wp2)
         go_meet
         case rel => exact ⟨_, (true), (by first | rfl | (simp; done) | (simp [*]; done)), H', ⟨by have := HK1.out; have := HJ5.out; first | omega | exact Nat.le_refl _⟩, ⟨by (with_reducible repeat (first | apply Kd.S_alloc | apply Kd.S_drewN | apply Kd.S_drew)); exact Kd.S_mono (Kd.S_far (p := ⟨gb381, 1, none⟩) (Kd.S_far (p := ⟨gb381, 0, none⟩) (Kd.S_types HO_7.out BK381.out (by decide)) (fun _ hk => hk.2) (.int .i64 t378)) (fun _ hk => hk.2) (.int .i64 t379)) (fun _ hk => hk.1.2)⟩, ⟨by (with_reducible repeat (first | apply Kd.S_alloc | apply Kd.S_drewN | apply Kd.S_drew)); exact Kd.S_mono (Kd.S_far (p := ⟨gb381, 1, none⟩) (Kd.S_far (p := ⟨gb381, 0, none⟩) (Kd.S_types HO377.out BK381.out (by decide)) (fun _ hk => hk.2) (.int .i64 t378)) (fun _ hk => hk.2) (.int .i64 t379)) (fun _ hk => hk.1.2)⟩, ⟨by (with_reducible repeat (first | refine blk_drewN ?_ _ | refine blk_drew ?_ | refine blk_alloc ?_ _)); refine blk_put (cs := #[.int .i64 t378, .int .i64 0]) ?_ 1 _ rfl; (with_reducible repeat (first | refine blk_drewN ?_ _ | refine blk_drew ?_ | refine blk_alloc ?_ _)); refine blk_put (cs := #[.int .i64 0, .int .i64 0]) ?_ 0 _ rfl; (with_reducible repeat (first | refine blk_drewN ?_ _ | refine blk_drew ?_ | refine blk_alloc ?_ _)); exact BK381.out⟩, ⟨by repeat (first | (with_reducible first | exact HB.out | apply below_alloc | apply pw_below_drewN | apply below_drew1 | refine below_set ?_ GE381.out) | exact HB.out)⟩⟩
       case rest =>
        clear HC22
        try clear c1
        try clear c2
        try clear p2
        try clear c3
        try clear p3
        try clear q3
        try clear hx3
        try clear c4
        try clear p6
        try clear c7
        try clear c7b0
        try clear c9
        try clear c12
        try clear c12b0
        try clear c12b1
        try clear c14
        try clear c15
        try clear c15b0
        try clear c15b1
        try clear c28
        try clear c28b0
        try clear c28b1
        try clear c29
        try clear c29b0
        try clear c31
        try clear c31b0
        try clear c33
        try clear c33b0
        try clear c34
        try clear c34b0
        try clear c35
        try clear c35b0
        try clear c35b1
        try clear c35b2
        try clear hcz20_0
        try clear hcz20_1
        try clear hcz27_0
        try clear hcz27_1
        try clear hcz30_0
        try clear hcz30_1
        try clear hcz32_0
        try clear hcz32_1
        try clear hcz36_0
        try clear hcz36_1
        try clear hfz20_0
        try clear hfz20_1
        try clear hfz27_0
        try clear hfz27_1
        try clear hfz30_0
        try clear hfz30_1
        try clear hfz32_0
        try clear hfz32_1
        try clear hfz36_0
        try clear hfz36_1
        try clear hx383_0
        try clear hx383_1
        try clear hx383_2
        try clear hx383_3
        try clear hx383_4
        try clear hx383_5
        try clear hx383_6
        try clear p2
        try clear p383
        try clear p6
        try clear q383
        obtain ⟨kq, x74_21, rfl, HA, HJ21, HO_7, HO_11, BK381, HB⟩ := hcut
        cases kq with
        | zero => exact absurd HA.out (by simp [selvedgelaw18_CylSpreads.j2])
        | succ kj21 =>
         have H := HA.out
         clear HA
         simp only [selvedgelaw18_CylSpreads.j2] at H
         by_cases c37 : x74_21 = true
         ·subst c37
          have H1 : (none) = some r := by rw [if_pos rfl] at H; exact H
          clear H
          have H := H1
          clear H1
          exact absurd H (by simp)
         ·replace c37 := Bool.eq_false_iff.mpr c37
          subst c37
          have H1 : (selvedgelaw18_CylSpreads.l1 kj21 a2 x7_1 x8_1 t374 t375 0 t378 t379) = some r := by rw [if_neg (show ¬ (false = true) by decide)] at H; exact H
          clear H
          have H := H1
          clear H1
          have H' := Aside0.mk H
          clear H
          go_wp2
          repeat (go_quiet (fail); try go_wp2)
          go_loopg [14] kj21 (fun kq v14 w' => ∃ (x14_4 : Int), v14 = .int .i64 x14_4 ∧ Aside0 (selvedgelaw18_CylSpreads.l1 kq a2 x7_1 x8_1 t374 t375 x14_4 t378 t379 = some r) ∧ Aside0 (kq ≤ kj21) ∧ Aside0 (Kd.S k42 42 w' w.heap.size (fun k_ => some k_ ≠ (v376 : Value).ownBlock) (.slice Ao23 x7_1.length co23) x7_1) ∧ Aside0 (Kd.S k42 42 w' w.heap.size (fun k_ => some k_ ≠ ((.slice Ao23 x7_1.length co23) : Value).ownBlock) v376 t375) ∧ Aside0 (w'.heap[gb381]? = some (.cells #[.int .i64 t378, .int .i64 t379] 24 (0, 0))) ∧ Aside0 (Below w.heap.size w w'))
          case atStart => exact ⟨(0), (by first | rfl | (simp; done) | (simp [*]; done)), H', ⟨Nat.le_refl _⟩, ⟨by (with_reducible repeat (first | apply Kd.S_alloc | apply Kd.S_drewN | apply Kd.S_drew)); exact HO_7.out⟩, ⟨by (with_reducible repeat (first | apply Kd.S_alloc | apply Kd.S_drewN | apply Kd.S_drew)); exact HO_11.out⟩, ⟨by (with_reducible repeat (first | refine blk_drewN ?_ _ | refine blk_drew ?_ | refine blk_alloc ?_ _)); exact BK381.out⟩, ⟨by repeat (first | (with_reducible first | exact HB.out | apply below_alloc | apply pw_below_drewN | apply below_drew1 | refine below_set ?_ GE381.out) | exact HB.out)⟩⟩
          case round =>
           clear H'
           try clear c1
           try clear c2
           try clear p2
           try clear c3
           try clear p3
           try clear q3
           try clear hx3
           try clear c4
           try clear p6
           try clear c7
           try clear c7b0
           try clear c9
           try clear c12
           try clear c12b0
           try clear c12b1
           try clear c14
           try clear c15
           try clear c15b0
           try clear c15b1
           try clear c28
           try clear c28b0
           try clear c28b1
           try clear c29
           try clear c29b0
           try clear c31
           try clear c31b0
           try clear c33
           try clear c33b0
           try clear c34
           try clear c34b0
           try clear c35
           try clear c35b0
           try clear c35b1
           try clear c35b2
           try clear c37
           try clear hcz20_0
           try clear hcz20_1
           try clear hcz27_0
           try clear hcz27_1
           try clear hcz30_0
           try clear hcz30_1
           try clear hcz32_0
           try clear hcz32_1
           try clear hcz36_0
           try clear hcz36_1
           try clear hfz20_0
           try clear hfz20_1
           try clear hfz27_0
           try clear hfz27_1
           try clear hfz30_0
           try clear hfz30_1
           try clear hfz32_0
           try clear hfz32_1
           try clear hfz36_0
           try clear hfz36_1
           try clear hx383_0
           try clear hx383_1
           try clear hx383_2
           try clear hx383_3
           try clear hx383_4
           try clear hx383_5
           try clear hx383_6
           try clear p2
           try clear p3
           try clear p383
           try clear p6
           try clear q3
           try clear q383
           obtain ⟨x14_4, rfl, HA, HK4, HO_7, HO_11, BK381, HB⟩ := hrel
           cases gk with
           | zero => exact absurd HA.out (by simp [selvedgelaw18_CylSpreads.l1])
           | succ k4 =>
            have H := HA.out
            clear HA
            simp only [selvedgelaw18_CylSpreads.l1] at H
            by_cases c38 : x14_4 < (x7_1.length : Int)
            ·rw [if_pos c38] at H
             have c38b0 : decide (x14_4 < (x7_1.length : Int)) = true := decide_eq_true c38
             clear c38
             by_cases c39 : 0 ≤ x14_4
             ·rw [if_pos c39] at H
              have c39b0 : decide (0 ≤ x14_4) = true := decide_eq_true c39
              clear c39
              by_cases c40 : ((rd_T42 x7_1 x14_4).f3) ≥ 1
              ·rw [if_pos c40] at H
               have c40b0 : decide (1 ≤ ((rd_T42 x7_1 x14_4).f3)) = true := decide_eq_true c40
               clear c40
               by_cases c41 : (x7_1.length : Int) = 0
               ·rw [if_pos c41] at H
                exact absurd H (by simp)
               ·rw [if_neg c41] at H
                have c41b0 : ((x7_1.length : Int) == 0) = false := beq_eq_false_iff_ne.mpr c41
                have c41b1 : ((x7_1.length : Int) != 0) = true := bne_iff_ne.mpr c41
                have c41b2 : ¬ (x7_1 = []) := fun h_ => c41 (by rw [h_]; rfl)
                by_cases c42 : ((rd_T42 x7_1 x14_4).f3) ≥ (wrap64 (Int.tdiv t374 (x7_1.length : Int)))
                ·rw [if_pos c42] at H
                 have c42b0 : decide ((wrap64 (Int.tdiv t374 (x7_1.length : Int))) ≤ ((rd_T42 x7_1 x14_4).f3)) = true := decide_eq_true c42
                 clear c42
                 by_cases c43 : 0 ≤ t378
                 ·rw [if_pos c43] at H
                  have c43b0 : decide (0 ≤ t378) = true := decide_eq_true c43
                  clear c43
                  by_cases c44 : t378 < (x7_1.length : Int)
                  ·rw [if_pos c44] at H
                   have c44b0 : decide (t378 < (x7_1.length : Int)) = true := decide_eq_true c44
                   clear c44
                   by_cases c45 : ((rd_T42 x7_1 x14_4).f2) > ((rd_T42 x7_1 t378).f2)
                   ·rw [if_pos c45] at H
                    exact absurd H (by simp)
                   ·rw [if_neg c45] at H
                    have c45b0 : decide (((rd_T42 x7_1 t378).f2) < ((rd_T42 x7_1 x14_4).f2)) = false := decide_eq_false c45
                    clear c45
                    have H' := Aside0.mk H
                    clear H
                    have p384 : 0 ≤ (x14_4 : Int) := of_decide_eq_true (by first | (with_reducible assumption) | assumption)
                    have q384 : x14_4 < (x7_1.length : Int) := of_decide_eq_true (by first | (with_reducible assumption) | assumption)
                    obtain ⟨ad384, A384_5, c384_5, A384_6, c384_6, e384, hx384_0, hx384_1, hx384_2, hx384_3, hx384_4, hx384_5, hx384_6, hl384_5, hi384_5, hl384_6, hi384_6⟩ := at_T42 (Kd.S_reads' HO_7.out).2.2 x14_4 p384 q384
                    cases e384
                    obtain ⟨ce384, hce384, hMe384, hcc384⟩ := Kd.S_get HO_7.out z42 x14_4 p384 (by first | exact q384 | exact of_decide_eq_true (by first | (with_reducible assumption) | assumption) | (have e_ := (Kd.S_reads' HO_7.out).1; omega))
                    obtain ⟨ve384_5, ve384_6, rfl, ge384_5, ge384_6⟩ := k42_openM hMe384
                    have hv384_5 := hcc384 5 _ rfl
                    rw [add_field _ _ 5 (by omega)] at hv384_5
                    replace hv384_5 := Option.some.inj (hv384_5.symm.trans hx384_5)
                    rw [hv384_5] at ge384_5
                    have HL384_5 := Aside0.mk (show Kd.R (Kd.int .i64) 3 _ _ _ _ ((rd_T42 x7_1 x14_4).f5) from ge384_5)
                    clear hv384_5 ge384_5
                    have hv384_6 := hcc384 6 _ rfl
                    rw [add_field _ _ 6 (by omega)] at hv384_6
                    replace hv384_6 := Option.some.inj (hv384_6.symm.trans hx384_6)
                    rw [hv384_6] at ge384_6
                    have HL384_6 := Aside0.mk (show Kd.R (Kd.int .i64) 3 _ _ _ _ ((rd_T42 x7_1 x14_4).f6) from ge384_6)
                    clear hv384_6 ge384_6
                    clear hcc384 hce384
                    have HR384_5 := Aside0.mk hi384_5
                    have HC384_5 := Aside0.mk hl384_5
                    clear hi384_5 hl384_5
                    have HR384_6 := Aside0.mk hi384_6
                    have HC384_6 := Aside0.mk hl384_6
                    clear hi384_6 hl384_6
                    replace p384 := eq_true p384
                    replace q384 := eq_true q384
                    have p385 : 0 ≤ (x14_4 : Int) := of_decide_eq_true (by first | (with_reducible assumption) | assumption)
                    have q385 : x14_4 < (x7_1.length : Int) := of_decide_eq_true (by first | (with_reducible assumption) | assumption)
                    obtain ⟨ad385, A385_5, c385_5, A385_6, c385_6, e385, hx385_0, hx385_1, hx385_2, hx385_3, hx385_4, hx385_5, hx385_6, hl385_5, hi385_5, hl385_6, hi385_6⟩ := at_T42 (Kd.S_reads' HO_7.out).2.2 x14_4 p385 q385
                    obtain rfl : ad384 = ad385 := (by injection e385)
                    obtain ⟨ce385, hce385, hMe385, hcc385⟩ := Kd.S_get HO_7.out z42 x14_4 p385 (by first | exact q385 | exact of_decide_eq_true (by first | (with_reducible assumption) | assumption) | (have e_ := (Kd.S_reads' HO_7.out).1; omega))
                    obtain ⟨ve385_5, ve385_6, rfl, ge385_5, ge385_6⟩ := k42_openM hMe385
                    have hv385_5 := hcc385 5 _ rfl
                    rw [add_field _ _ 5 (by omega)] at hv385_5
                    replace hv385_5 := Option.some.inj (hv385_5.symm.trans hx385_5)
                    rw [hv385_5] at ge385_5
                    have HL385_5 := Aside0.mk (show Kd.R (Kd.int .i64) 3 _ _ _ _ ((rd_T42 x7_1 x14_4).f5) from ge385_5)
                    clear hv385_5 ge385_5
                    have hv385_6 := hcc385 6 _ rfl
                    rw [add_field _ _ 6 (by omega)] at hv385_6
                    replace hv385_6 := Option.some.inj (hv385_6.symm.trans hx385_6)
                    rw [hv385_6] at ge385_6
                    have HL385_6 := Aside0.mk (show Kd.R (Kd.int .i64) 3 _ _ _ _ ((rd_T42 x7_1 x14_4).f6) from ge385_6)
                    clear hv385_6 ge385_6
                    clear hcc385 hce385
                    have HR385_5 := Aside0.mk hi385_5
                    have HC385_5 := Aside0.mk hl385_5
                    clear hi385_5 hl385_5
                    have HR385_6 := Aside0.mk hi385_6
                    have HC385_6 := Aside0.mk hl385_6
                    clear hi385_6 hl385_6
                    replace p385 := eq_true p385
                    replace q385 := eq_true q385
                    have ea_ := Option.some.inj (hx384_5.symm.trans hx385_5)
                    injection ea_ with ea_ en_ ec_
                    subst ea_
                    subst ec_
                    clear en_
                    have ea_ := Option.some.inj (hx384_6.symm.trans hx385_6)
                    injection ea_ with ea_ en_ ec_
                    subst ea_
                    subst ec_
                    clear en_
                    have p386 : 0 ≤ (x14_4 : Int) := of_decide_eq_true (by first | (with_reducible assumption) | assumption)
                    have q386 : x14_4 < (x7_1.length : Int) := of_decide_eq_true (by first | (with_reducible assumption) | assumption)
                    obtain ⟨ad386, A386_5, c386_5, A386_6, c386_6, e386, hx386_0, hx386_1, hx386_2, hx386_3, hx386_4, hx386_5, hx386_6, hl386_5, hi386_5, hl386_6, hi386_6⟩ := at_T42 (Kd.S_reads' HO_7.out).2.2 x14_4 p386 q386
                    obtain rfl : ad384 = ad386 := (by injection e386)
                    obtain ⟨ce386, hce386, hMe386, hcc386⟩ := Kd.S_get HO_7.out z42 x14_4 p386 (by first | exact q386 | exact of_decide_eq_true (by first | (with_reducible assumption) | assumption) | (have e_ := (Kd.S_reads' HO_7.out).1; omega))
                    obtain ⟨ve386_5, ve386_6, rfl, ge386_5, ge386_6⟩ := k42_openM hMe386
                    have hv386_5 := hcc386 5 _ rfl
                    rw [add_field _ _ 5 (by omega)] at hv386_5
                    replace hv386_5 := Option.some.inj (hv386_5.symm.trans hx386_5)
                    rw [hv386_5] at ge386_5
                    have HL386_5 := Aside0.mk (show Kd.R (Kd.int .i64) 3 _ _ _ _ ((rd_T42 x7_1 x14_4).f5) from ge386_5)
                    clear hv386_5 ge386_5
                    have hv386_6 := hcc386 6 _ rfl
                    rw [add_field _ _ 6 (by omega)] at hv386_6
                    replace hv386_6 := Option.some.inj (hv386_6.symm.trans hx386_6)
                    rw [hv386_6] at ge386_6
                    have HL386_6 := Aside0.mk (show Kd.R (Kd.int .i64) 3 _ _ _ _ ((rd_T42 x7_1 x14_4).f6) from ge386_6)
                    clear hv386_6 ge386_6
                    clear hcc386 hce386
                    have HR386_5 := Aside0.mk hi386_5
                    have HC386_5 := Aside0.mk hl386_5
                    clear hi386_5 hl386_5
                    have HR386_6 := Aside0.mk hi386_6
                    have HC386_6 := Aside0.mk hl386_6
                    clear hi386_6 hl386_6
                    replace p386 := eq_true p386
                    replace q386 := eq_true q386
                    have ea_ := Option.some.inj (hx384_5.symm.trans hx386_5)
                    injection ea_ with ea_ en_ ec_
                    subst ea_
                    subst ec_
                    clear en_
                    have ea_ := Option.some.inj (hx384_6.symm.trans hx386_6)
                    injection ea_ with ea_ en_ ec_
                    subst ea_
                    subst ec_
                    clear en_
                    have hcz46_0 : wr.cell? ⟨gb381, 0, none⟩ = some (.int .i64 t378) := (blk_cell BK381.out 0).trans rfl
                    have hcz46_1 : wr.cell? ⟨gb381, 1, none⟩ = some (.int .i64 t379) := (blk_cell BK381.out 1).trans rfl
                    have hfz46_0 := blk_frozen BK381.out 0
                    have hfz46_1 := blk_frozen BK381.out 1
                    have p387 : 0 ≤ (t378 : Int) := of_decide_eq_true (by first | (with_reducible assumption) | assumption)
                    have q387 : t378 < (x7_1.length : Int) := of_decide_eq_true (by first | (with_reducible assumption) | assumption)
                    obtain ⟨ad387, A387_5, c387_5, A387_6, c387_6, e387, hx387_0, hx387_1, hx387_2, hx387_3, hx387_4, hx387_5, hx387_6, hl387_5, hi387_5, hl387_6, hi387_6⟩ := at_T42 (Kd.S_reads' HO_7.out).2.2 t378 p387 q387
                    obtain rfl : ad384 = ad387 := (by injection e387)
                    obtain ⟨ce387, hce387, hMe387, hcc387⟩ := Kd.S_get HO_7.out z42 t378 p387 (by first | exact q387 | exact of_decide_eq_true (by first | (with_reducible assumption) | assumption) | (have e_ := (Kd.S_reads' HO_7.out).1; omega))
                    obtain ⟨ve387_5, ve387_6, rfl, ge387_5, ge387_6⟩ := k42_openM hMe387
                    have hv387_5 := hcc387 5 _ rfl
                    rw [add_field _ _ 5 (by omega)] at hv387_5
                    replace hv387_5 := Option.some.inj (hv387_5.symm.trans hx387_5)
                    rw [hv387_5] at ge387_5
                    have HL387_5 := Aside0.mk (show Kd.R (Kd.int .i64) 3 _ _ _ _ ((rd_T42 x7_1 t378).f5) from ge387_5)
                    clear hv387_5 ge387_5
                    have hv387_6 := hcc387 6 _ rfl
                    rw [add_field _ _ 6 (by omega)] at hv387_6
                    replace hv387_6 := Option.some.inj (hv387_6.symm.trans hx387_6)
                    rw [hv387_6] at ge387_6
                    have HL387_6 := Aside0.mk (show Kd.R (Kd.int .i64) 3 _ _ _ _ ((rd_T42 x7_1 t378).f6) from ge387_6)
                    clear hv387_6 ge387_6
                    clear hcc387 hce387
                    have HR387_5 := Aside0.mk hi387_5
                    have HC387_5 := Aside0.mk hl387_5
                    clear hi387_5 hl387_5
                    have HR387_6 := Aside0.mk hi387_6
                    have HC387_6 := Aside0.mk hl387_6
                    clear hi387_6 hl387_6
                    replace p387 := eq_true p387
                    replace q387 := eq_true q387
                    go_wp2
                    repeat (go_quiet (fail); try go_wp2)
                    go_roundg k4
                    case measure => have := HK1.out; have := HJ5.out; have := HJ21.out; have := HK4.out; omega
                    case rel => exact ⟨(wrap64 (x14_4 + 1)), (by first | rfl | (simp; done) | (simp [*]; done)), H', ⟨by have := HK1.out; have := HJ5.out; have := HJ21.out; have := HK4.out; omega⟩, ⟨by (with_reducible repeat (first | apply Kd.S_alloc | apply Kd.S_drewN | apply Kd.S_drew)); exact HO_7.out⟩, ⟨by (with_reducible repeat (first | apply Kd.S_alloc | apply Kd.S_drewN | apply Kd.S_drew)); exact HO_11.out⟩, ⟨by (with_reducible repeat (first | refine blk_drewN ?_ _ | refine blk_drew ?_ | refine blk_alloc ?_ _)); exact BK381.out⟩, ⟨by repeat (first | (with_reducible first | exact HB.out | apply below_alloc | apply pw_below_drewN | apply below_drew1 | refine below_set ?_ GE381.out) | exact HB.out)⟩⟩
                  ·rw [if_neg c44] at H
                   exact absurd H (by simp)
                 ·rw [if_neg c43] at H
                  exact absurd H (by simp)
                ·rw [if_neg c42] at H
                 have c42b0 : decide ((wrap64 (Int.tdiv t374 (x7_1.length : Int))) ≤ ((rd_T42 x7_1 x14_4).f3)) = false := decide_eq_false c42
                 clear c42
                 have H' := Aside0.mk H
                 clear H
                 have p384 : 0 ≤ (x14_4 : Int) := of_decide_eq_true (by first | (with_reducible assumption) | assumption)
                 have q384 : x14_4 < (x7_1.length : Int) := of_decide_eq_true (by first | (with_reducible assumption) | assumption)
                 obtain ⟨ad384, A384_5, c384_5, A384_6, c384_6, e384, hx384_0, hx384_1, hx384_2, hx384_3, hx384_4, hx384_5, hx384_6, hl384_5, hi384_5, hl384_6, hi384_6⟩ := at_T42 (Kd.S_reads' HO_7.out).2.2 x14_4 p384 q384
                 cases e384
                 obtain ⟨ce384, hce384, hMe384, hcc384⟩ := Kd.S_get HO_7.out z42 x14_4 p384 (by first | exact q384 | exact of_decide_eq_true (by first | (with_reducible assumption) | assumption) | (have e_ := (Kd.S_reads' HO_7.out).1; omega))
                 obtain ⟨ve384_5, ve384_6, rfl, ge384_5, ge384_6⟩ := k42_openM hMe384
                 have hv384_5 := hcc384 5 _ rfl
                 rw [add_field _ _ 5 (by omega)] at hv384_5
                 replace hv384_5 := Option.some.inj (hv384_5.symm.trans hx384_5)
                 rw [hv384_5] at ge384_5
                 have HL384_5 := Aside0.mk (show Kd.R (Kd.int .i64) 3 _ _ _ _ ((rd_T42 x7_1 x14_4).f5) from ge384_5)
                 clear hv384_5 ge384_5
                 have hv384_6 := hcc384 6 _ rfl
                 rw [add_field _ _ 6 (by omega)] at hv384_6
                 replace hv384_6 := Option.some.inj (hv384_6.symm.trans hx384_6)
                 rw [hv384_6] at ge384_6
                 have HL384_6 := Aside0.mk (show Kd.R (Kd.int .i64) 3 _ _ _ _ ((rd_T42 x7_1 x14_4).f6) from ge384_6)
                 clear hv384_6 ge384_6
                 clear hcc384 hce384
                 have HR384_5 := Aside0.mk hi384_5
                 have HC384_5 := Aside0.mk hl384_5
                 clear hi384_5 hl384_5
                 have HR384_6 := Aside0.mk hi384_6
                 have HC384_6 := Aside0.mk hl384_6
                 clear hi384_6 hl384_6
                 replace p384 := eq_true p384
                 replace q384 := eq_true q384
                 have p385 : 0 ≤ (x14_4 : Int) := of_decide_eq_true (by first | (with_reducible assumption) | assumption)
                 have q385 : x14_4 < (x7_1.length : Int) := of_decide_eq_true (by first | (with_reducible assumption) | assumption)
                 obtain ⟨ad385, A385_5, c385_5, A385_6, c385_6, e385, hx385_0, hx385_1, hx385_2, hx385_3, hx385_4, hx385_5, hx385_6, hl385_5, hi385_5, hl385_6, hi385_6⟩ := at_T42 (Kd.S_reads' HO_7.out).2.2 x14_4 p385 q385
                 obtain rfl : ad384 = ad385 := (by injection e385)
                 obtain ⟨ce385, hce385, hMe385, hcc385⟩ := Kd.S_get HO_7.out z42 x14_4 p385 (by first | exact q385 | exact of_decide_eq_true (by first | (with_reducible assumption) | assumption) | (have e_ := (Kd.S_reads' HO_7.out).1; omega))
                 obtain ⟨ve385_5, ve385_6, rfl, ge385_5, ge385_6⟩ := k42_openM hMe385
                 have hv385_5 := hcc385 5 _ rfl
                 rw [add_field _ _ 5 (by omega)] at hv385_5
                 replace hv385_5 := Option.some.inj (hv385_5.symm.trans hx385_5)
                 rw [hv385_5] at ge385_5
                 have HL385_5 := Aside0.mk (show Kd.R (Kd.int .i64) 3 _ _ _ _ ((rd_T42 x7_1 x14_4).f5) from ge385_5)
                 clear hv385_5 ge385_5
                 have hv385_6 := hcc385 6 _ rfl
                 rw [add_field _ _ 6 (by omega)] at hv385_6
                 replace hv385_6 := Option.some.inj (hv385_6.symm.trans hx385_6)
                 rw [hv385_6] at ge385_6
                 have HL385_6 := Aside0.mk (show Kd.R (Kd.int .i64) 3 _ _ _ _ ((rd_T42 x7_1 x14_4).f6) from ge385_6)
                 clear hv385_6 ge385_6
                 clear hcc385 hce385
                 have HR385_5 := Aside0.mk hi385_5
                 have HC385_5 := Aside0.mk hl385_5
                 clear hi385_5 hl385_5
                 have HR385_6 := Aside0.mk hi385_6
                 have HC385_6 := Aside0.mk hl385_6
                 clear hi385_6 hl385_6
                 replace p385 := eq_true p385
                 replace q385 := eq_true q385
                 have ea_ := Option.some.inj (hx384_5.symm.trans hx385_5)
                 injection ea_ with ea_ en_ ec_
                 subst ea_
                 subst ec_
                 clear en_
                 have ea_ := Option.some.inj (hx384_6.symm.trans hx385_6)
                 injection ea_ with ea_ en_ ec_
                 subst ea_
                 subst ec_
                 clear en_
                 go_wp2
                 repeat (go_quiet (fail); try go_wp2)
                 go_roundg k4
                 case measure => have := HK1.out; have := HJ5.out; have := HJ21.out; have := HK4.out; omega
                 case rel => exact ⟨(wrap64 (x14_4 + 1)), (by first | rfl | (simp; done) | (simp [*]; done)), H', ⟨by have := HK1.out; have := HJ5.out; have := HJ21.out; have := HK4.out; omega⟩, ⟨by (with_reducible repeat (first | apply Kd.S_alloc | apply Kd.S_drewN | apply Kd.S_drew)); exact HO_7.out⟩, ⟨by (with_reducible repeat (first | apply Kd.S_alloc | apply Kd.S_drewN | apply Kd.S_drew)); exact HO_11.out⟩, ⟨by (with_reducible repeat (first | refine blk_drewN ?_ _ | refine blk_drew ?_ | refine blk_alloc ?_ _)); exact BK381.out⟩, ⟨by repeat (first | (with_reducible first | exact HB.out | apply below_alloc | apply pw_below_drewN | apply below_drew1 | refine below_set ?_ GE381.out) | exact HB.out)⟩⟩
              ·rw [if_neg c40] at H
               have c40b0 : decide (1 ≤ ((rd_T42 x7_1 x14_4).f3)) = false := decide_eq_false c40
               clear c40
               have H' := Aside0.mk H
               clear H
               have p384 : 0 ≤ (x14_4 : Int) := of_decide_eq_true (by first | (with_reducible assumption) | assumption)
               have q384 : x14_4 < (x7_1.length : Int) := of_decide_eq_true (by first | (with_reducible assumption) | assumption)
               obtain ⟨ad384, A384_5, c384_5, A384_6, c384_6, e384, hx384_0, hx384_1, hx384_2, hx384_3, hx384_4, hx384_5, hx384_6, hl384_5, hi384_5, hl384_6, hi384_6⟩ := at_T42 (Kd.S_reads' HO_7.out).2.2 x14_4 p384 q384
               cases e384
               obtain ⟨ce384, hce384, hMe384, hcc384⟩ := Kd.S_get HO_7.out z42 x14_4 p384 (by first | exact q384 | exact of_decide_eq_true (by first | (with_reducible assumption) | assumption) | (have e_ := (Kd.S_reads' HO_7.out).1; omega))
               obtain ⟨ve384_5, ve384_6, rfl, ge384_5, ge384_6⟩ := k42_openM hMe384
               have hv384_5 := hcc384 5 _ rfl
               rw [add_field _ _ 5 (by omega)] at hv384_5
               replace hv384_5 := Option.some.inj (hv384_5.symm.trans hx384_5)
               rw [hv384_5] at ge384_5
               have HL384_5 := Aside0.mk (show Kd.R (Kd.int .i64) 3 _ _ _ _ ((rd_T42 x7_1 x14_4).f5) from ge384_5)
               clear hv384_5 ge384_5
               have hv384_6 := hcc384 6 _ rfl
               rw [add_field _ _ 6 (by omega)] at hv384_6
               replace hv384_6 := Option.some.inj (hv384_6.symm.trans hx384_6)
               rw [hv384_6] at ge384_6
               have HL384_6 := Aside0.mk (show Kd.R (Kd.int .i64) 3 _ _ _ _ ((rd_T42 x7_1 x14_4).f6) from ge384_6)
               clear hv384_6 ge384_6
               clear hcc384 hce384
               have HR384_5 := Aside0.mk hi384_5
               have HC384_5 := Aside0.mk hl384_5
               clear hi384_5 hl384_5
               have HR384_6 := Aside0.mk hi384_6
               have HC384_6 := Aside0.mk hl384_6
               clear hi384_6 hl384_6
               replace p384 := eq_true p384
               replace q384 := eq_true q384
               go_wp2
               repeat (go_quiet (fail); try go_wp2)
               go_roundg k4
               case measure => have := HK1.out; have := HJ5.out; have := HJ21.out; have := HK4.out; omega
               case rel => exact ⟨(wrap64 (x14_4 + 1)), (by first | rfl | (simp; done) | (simp [*]; done)), H', ⟨by have := HK1.out; have := HJ5.out; have := HJ21.out; have := HK4.out; omega⟩, ⟨by (with_reducible repeat (first | apply Kd.S_alloc | apply Kd.S_drewN | apply Kd.S_drew)); exact HO_7.out⟩, ⟨by (with_reducible repeat (first | apply Kd.S_alloc | apply Kd.S_drewN | apply Kd.S_drew)); exact HO_11.out⟩, ⟨by (with_reducible repeat (first | refine blk_drewN ?_ _ | refine blk_drew ?_ | refine blk_alloc ?_ _)); exact BK381.out⟩, ⟨by repeat (first | (with_reducible first | exact HB.out | apply below_alloc | apply pw_below_drewN | apply below_drew1 | refine below_set ?_ GE381.out) | exact HB.out)⟩⟩
             ·rw [if_neg c39] at H
              exact absurd H (by simp)
            ·rw [if_neg c38] at H
             have c38b0 : decide (x14_4 < (x7_1.length : Int)) = false := decide_eq_false c38
             clear c38
             have H' := Aside0.mk H
             clear H
             go_wp2
             repeat (go_quiet (fail); try go_wp2)
             go_roundg k4
             case measure => have := HK1.out; have := HJ5.out; have := HJ21.out; have := HK4.out; omega
             case rel => exact ⟨(t375), (wrap64 (x8_1 + 1)), (by first | rfl | (simp; done) | (simp [*]; done)), H', ⟨by have := HK1.out; have := HJ5.out; have := HJ21.out; have := HK4.out; omega⟩, ⟨by (with_reducible repeat (first | apply Kd.S_alloc | apply Kd.S_drewN | apply Kd.S_drew)); exact Kd.S_mono HO_11.out (fun _ hk => trivial)⟩, ⟨by repeat (first | (with_reducible first | exact HB.out | apply below_alloc | apply pw_below_drewN | apply below_drew1 | refine below_set ?_ GE381.out) | exact HB.out)⟩⟩
     ·replace c9 := Bool.eq_false_iff.mpr c9
      subst c9
      have H1 : ((selvedgelaw18_live.f).bind fun t372 => (if t372 = true then (some true) else (none))) = some r := by rw [if_neg (show ¬ (false = true) by decide)] at H; exact H
      clear H
      have H := H1
      clear H1
      replace H := Option.bind_eq_some_iff.mp H
      obtain ⟨t372, A470, H⟩ := H
      try dsimp -implicitDefEqProofs -simprocs only at H
      have A47 := Aside0.mk A470
      clear A470
      by_cases c48 : t372 = true
      ·subst c48
       have H1 : (some true) = some r := by rw [if_pos rfl] at H; exact H
       clear H
       have H := H1
       clear H1
       obtain rfl := Option.some.inj H
       go_wp2_with (first | (go_at_call 17; (with_reducible refine (selvedgelaw18_live.calls  true _ A47.out).mono ?_); rintro e w49 ⟨rfl, hb⟩; have n0_ := Aside0.mk (Kd.S_below (by (with_reducible repeat (first | apply Kd.S_alloc | apply Kd.S_drewN | apply Kd.S_drew)); exact HO_7.out) hb); have n1_ := Aside0.mk (below_step (by repeat (first | (with_reducible first | exact HB.out | apply below_alloc | apply pw_below_drewN | apply below_drew1) | exact HB.out)) hb); clear HO_7; clear HB; have HO_7 := n0_; have HB := n1_; clear n0_ n1_; (try clear hb); (try clear hb2); (try clear hk); (try clear hi)))
       repeat (go_quiet (first | (go_at_call 17; (with_reducible refine (selvedgelaw18_live.calls  true _ A47.out).mono ?_); rintro e w49 ⟨rfl, hb⟩; have n0_ := Aside0.mk (Kd.S_below (by (with_reducible repeat (first | apply Kd.S_alloc | apply Kd.S_drewN | apply Kd.S_drew)); exact HO_7.out) hb); have n1_ := Aside0.mk (below_step (by repeat (first | (with_reducible first | exact HB.out | apply below_alloc | apply pw_below_drewN | apply below_drew1) | exact HB.out)) hb); clear HO_7; clear HB; have HO_7 := n0_; have HB := n1_; clear n0_ n1_; (try clear hb); (try clear hb2); (try clear hk); (try clear hi))); try go_wp2_with (first | (go_at_call 17; (with_reducible refine (selvedgelaw18_live.calls  true _ A47.out).mono ?_); rintro e w49 ⟨rfl, hb⟩; have n0_ := Aside0.mk (Kd.S_below (by (with_reducible repeat (first | apply Kd.S_alloc | apply Kd.S_drewN | apply Kd.S_drew)); exact HO_7.out) hb); have n1_ := Aside0.mk (below_step (by repeat (first | (with_reducible first | exact HB.out | apply below_alloc | apply pw_below_drewN | apply below_drew1) | exact HB.out)) hb); clear HO_7; clear HB; have HO_7 := n0_; have HB := n1_; clear n0_ n1_; (try clear hb); (try clear hb2); (try clear hk); (try clear hi))))
       go_ret
       exact ⟨by first | rfl | (simp [errW_none, errW_some] <;> rfl) | (simp [*, errW_none, errW_some] <;> rfl), by repeat (first | (with_reducible first | exact HB.out | apply below_alloc | apply pw_below_drewN | apply below_drew1) | exact HB.out)⟩
      ·replace c48 := Bool.eq_false_iff.mpr c48
       subst c48
       have H1 : (none) = some r := by rw [if_neg (show ¬ (false = true) by decide)] at H; exact H
       clear H
       have H := H1
       clear H1
       exact absurd H (by simp)

end Go.Proofs.Ytehjmmedghcndaa.PG
