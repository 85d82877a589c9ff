import Derived.Test.YtehjmmedghcndaaPGx0
import Derived.Test.YtehjmmedghcndaaG2
import Derived.Test.YtehjmmedghcndaaCE0
import Derived.Test.YtehjmmedghcndaaLT
namespace Go.Proofs.Ytehjmmedghcndaa.PG
open Go.RowKit Go.Proofs.YtehjmmedghcndaaW.PrintWords Go.Proofs.YtehjmmedghcndaaW.PrintLast Go.Proofs.YtehjmmedghcndaaW.PrintMore
attribute [local go_sem] max2_int min2_int max_two min_two max_three min_three max_four min_four run_store_one   -- for this text's walks alone
set_option linter.unusedVariables false
set_option linter.unusedSimpArgs false
/-! ### cyl_Free: function 22 -/
def cyl_Free.l0 : Nat → Int → Int → List (S42) → Int → Int → Option (Int × Int)
 | 0, _, _, _, _, _ => none
 | k + 1, x2, x3, x9, x10, x11 => if x11 < x10 then (if 0 ≤ x11 then (if x11 < (x9.length : Int) then (cyl_Free.l0 k (wrap64 (x2 + ((rd_T42 x9 x11).f2))) (wrap64 (x3 + ((rd_T42 x9 x11).f3))) x9 x10 (wrap64 (x11 + 1))) else (none)) else (none)) else (some (x2, x3))
def cyl_Free.f (k : Nat) (l0 : List (S42)) : Option (Int × Int) := (cyl_Whole.f k l0).bind fun t352 => (if t352 = true then (cyl_Free.l0 k 0 0 l0 (l0.length : Int) 0) else (some (0, 0)))
set_option maxHeartbeats 8000000 in
set_option maxRecDepth 100000 in
theorem cyl_Free.calls (k : Nat) (A0 : Option Addr) (c0 : Nat) (l0 : List (S42)) (r1 : Int) (r2 : Int) (w : World) (hr0 : Kd.C k42 w A0 l0.length l0) (hc0 : l0.length ≤ c0) (h : cyl_Free.f k l0 = some (r1, r2)) :
  Calls Try.prog 22 #[.slice A0 l0.length c0] w fun e w' => e = .returned (.tuple #[.int .i64 r1, .int .i64 r2]) ∧ Below w.heap.size w w' := by
 have hu42 := Try.underlying42
 have HR0 := Aside0.mk hr0
 have HC0 := Aside0.mk hc0
 clear hr0 hc0
 have HB := Aside0.mk (Below.refl w.heap.size w)
 have H : ((cyl_Whole.f k l0).bind fun t352 => (if t352 = true then (cyl_Free.l0 k 0 0 l0 (l0.length : Int) 0) else (some (0, 0)))) = some (r1, r2) := h
 clear h
 replace H := Option.bind_eq_some_iff.mp H
 obtain ⟨t352, A20, H⟩ := H
 try dsimp -implicitDefEqProofs -simprocs only at H
 have A2 := Aside0.mk A20
 clear A20
 by_cases c3 : t352 = true
 ·subst c3
  have H1 : (cyl_Free.l0 k 0 0 l0 (l0.length : Int) 0) = some (r1, r2) := by rw [if_pos rfl] at H; exact H
  clear H
  have H := H1
  clear H1
  have H' := Aside0.mk H
  clear H
  go_enter Try.func22, Try.ntmps22
  go_wp2_with (first | ((with_reducible refine gate_callee (f := 19) rfl ?_); refine goesL_ (some 7) rfl rfl Try.func19 (by kernel_rfl) rfl #[.slice A0 l0.length c0] rfl (by simp only [List.map_toArray, List.map_cons, List.map_nil]; first | done | rfl) ?_; (with_reducible refine (cyl_Whole.calls k _ _ l0 true _ ?side1 ?side2 A2.out).mono ?_); (case side1 => exact ck HR0.out); (case side2 => exact HC0.out); rintro e w4 ⟨rfl, hb⟩; refine ⟨_, rfl, ?_⟩; replace HB := Aside0.mk (below_step (bl HB) hb); (try clear hb); (try clear hb2); (try clear hk); (try clear hi)))
  go_loopg [2, 3, 11] k (fun kq v2 v3 v11 w' => ∃ (x2_1 : Int) (x3_1 : Int) (x11_1 : Int), v2 = .int .i64 x2_1 ∧ v3 = .int .i64 x3_1 ∧ v11 = .int .i64 x11_1 ∧ Aside0 (cyl_Free.l0 kq x2_1 x3_1 l0 (l0.length : Int) x11_1 = some (r1, r2)) ∧ Aside0 (kq ≤ k) ∧ Aside0 (Below w.heap.size w w'))
  case atStart => exact ⟨(0), (0), (0), (by first | rfl | (simp; done) | (simp [*]; done)), (by first | rfl | (simp; done) | (simp [*]; done)), (by first | rfl | (simp; done) | (simp [*]; done)), H', ⟨Nat.le_refl _⟩, ⟨bl HB⟩⟩
  case round =>
   clear H'
   try clear c1
   try clear c2
   try clear p2
   try clear c3
   obtain ⟨x2_1, x3_1, x11_1, rfl, rfl, rfl, HA, HK1, HB⟩ := hrel
   cases gk with
   | zero => exact absurd HA.out (by simp [cyl_Free.l0])
   | succ k1 =>
    have H := HA.out
    clear HA
    simp only [cyl_Free.l0] at H
    by_cases c5 : x11_1 < (l0.length : Int)
    ·rw [if_pos c5] at H
     have c5b0 : decide (x11_1 < (l0.length : Int)) = true := decide_eq_true c5
     clear c5
     by_cases c6 : 0 ≤ x11_1
     ·rw [if_pos c6] at H
      have c6b0 : decide (0 ≤ x11_1) = true := decide_eq_true c6
      clear c6
      by_cases c7 : x11_1 < (l0.length : Int)
      ·rw [if_pos c7] at H
       have c7b0 : decide (x11_1 < (l0.length : Int)) = true := decide_eq_true c7
       clear c7
       have H' := Aside0.mk H
       clear H
       have p353 : 0 ≤ (x11_1 : Int) := of_decide_eq_true (by assumption)
       have q353 : x11_1 < (l0.length : Int) := of_decide_eq_true (by assumption)
       obtain ⟨ad353, A353_5, c353_5, A353_6, c353_6, e353, hx353_0, hx353_1, hx353_2, hx353_3, hx353_4, hx353_5, hx353_6, hl353_5, hi353_5, hl353_6, hi353_6⟩ := at_T42 HR0.out x11_1 p353 q353
       cases e353
       obtain ⟨hx353_0, hx353_1, hx353_2, hx353_3, hx353_4, hx353_5, hx353_6⟩ := cb7 HB.out hx353_0 hx353_1 hx353_2 hx353_3 hx353_4 hx353_5 hx353_6
       have HR353_5 := Aside0.mk hi353_5
       have HC353_5 := Aside0.mk hl353_5
       clear hi353_5 hl353_5
       have HR353_6 := Aside0.mk hi353_6
       have HC353_6 := Aside0.mk hl353_6
       clear hi353_6 hl353_6
       replace p353 := eq_true p353
       replace q353 := eq_true q353
       go_wp2_with (first | ((with_reducible refine gate_dst (N := 5) rfl ?_); refine box_event rfl (N := 5) rfl (cs := #[.int .i64 0, .int .i64 0, .int .i64 0, .int .i64 0, .int .i64 0, .slice none 0 0, .slice none 0 0]) (t := 42) (by first | (go_simp; done) | (go_simp; rfl)) ?_; intro gb354 hg w8 hbox hb; have BK354 := Aside0.mk (hbox); have GW354 := gs HB hg; have GE354 := gs HB hg; replace HB := Aside0.mk (below_step (bl HB) hb); clear hb hbox hg; obtain ⟨hcz9_0, hcz9_1, hcz9_2, hcz9_3, hcz9_4, hcz9_5, hcz9_6, hfz9_0, hfz9_1, hfz9_2, hfz9_3, hfz9_4, hfz9_5, hfz9_6⟩ := cf7 BK354))
       go_roundg k1
       case measure => have := HK1.out; omega
       case rel => exact ⟨(wrap64 (x2_1 + ((rd_T42 l0 x11_1).f2))), (wrap64 (x3_1 + ((rd_T42 l0 x11_1).f3))), (wrap64 (x11_1 + 1)), (by first | rfl | (simp; done) | (simp [*]; done)), (by first | rfl | (simp; done) | (simp [*]; done)), (by first | rfl | (simp; done) | (simp [*]; done)), H', ⟨by have := HK1.out; omega⟩, ⟨bs HB (by simp [ag, GE354.out])⟩⟩
      ·rw [if_neg c7] at H
       exact absurd H (by simp)
     ·rw [if_neg c6] at H
      exact absurd H (by simp)
    ·rw [if_neg c5] at H
     have c5b0 : decide (x11_1 < (l0.length : Int)) = false := decide_eq_false c5
     clear c5
     simp only [Option.some.injEq, Prod.mk.injEq] at H
     obtain ⟨rfl, rfl⟩ := H
     go_wp2
     go_ret2
     exact ⟨by first | rfl | (simp [errW_none, errW_some] <;> rfl) | (simp [*, errW_none, errW_some] <;> rfl), bl HB⟩
 ·replace c3 := Bool.eq_false_iff.mpr c3
  subst c3
  have H1 : (some (0, 0)) = some (r1, r2) := by rw [if_neg (show ¬ (false = true) by decide)] at H; exact H
  clear H
  have H := H1
  clear H1
  simp only [Option.some.injEq, Prod.mk.injEq] at H
  obtain ⟨rfl, rfl⟩ := H
  go_enter Try.func22, Try.ntmps22
  go_wp2_with (first | ((with_reducible refine gate_callee (f := 19) rfl ?_); refine goesL_ (some 7) rfl rfl Try.func19 (by kernel_rfl) rfl #[.slice A0 l0.length c0] rfl (by simp only [List.map_toArray, List.map_cons, List.map_nil]; first | done | rfl) ?_; (with_reducible refine (cyl_Whole.calls k _ _ l0 false _ ?side1 ?side2 A2.out).mono ?_); (case side1 => exact ck HR0.out); (case side2 => exact HC0.out); rintro e w10 ⟨rfl, hb⟩; refine ⟨_, rfl, ?_⟩; replace HB := Aside0.mk (below_step (bl HB) hb); (try clear hb); (try clear hb2); (try clear hk); (try clear hi)))
  go_ret2
  exact ⟨by first | rfl | (simp [errW_none, errW_some] <;> rfl) | (simp [*, errW_none, errW_some] <;> rfl), bl HB⟩

/-! ### cyl_Dir: function 23 -/
def cyl_Dir.l0 : Nat → List (S42) → Int → Int → List (S42) → Int → Int → Option ((List (S42)) × Int × Int × Int)
 | 0, _, _, _, _, _, _ => none
 | k + 1, x0, x7, x8, x28, x29, x30 => if x30 < x29 then (if 0 ≤ x30 then (if x30 < (x28.length : Int) then (if ((rd_T42 x28 x30).f3) ≥ x7 then (if x8 < 0 then (cyl_Dir.l0 k x0 x7 x30 x28 x29 (wrap64 (x30 + 1))) else (if 0 ≤ x8 then (if x8 < (x0.length : Int) then (if ((rd_T42 x28 x30).f2) > ((rd_T42 x0 x8).f2) then (cyl_Dir.l0 k x0 x7 x30 x28 x29 (wrap64 (x30 + 1))) else (cyl_Dir.l0 k x0 x7 x8 x28 x29 (wrap64 (x30 + 1)))) else (none)) else (none))) else (cyl_Dir.l0 k x0 x7 x8 x28 x29 (wrap64 (x30 + 1)))) else (none)) else (none)) else (if x8 < 0 then (some (([] : List (S42)), 0, 0, 4)) else ((cyl_first.f x0 x8).bind fun bt362 => (some (bt362.1, bt362.2.1, bt362.2.2.1, 0))))
def cyl_Dir.f (k : Nat) (l0 : List (S42)) : Option ((List (S42)) × Int × Int × Int) := (cyl_Whole.f k l0).bind fun t356 => (if t356 = true then ((cyl_Free.f k l0).bind fun bt357 => (if (l0.length : Int) = 0 then (none) else (cyl_Dir.l0 k l0 (mx (wrap64 (Int.tdiv bt357.2 (l0.length : Int))) 1) (-1) l0 (l0.length : Int) 0))) else (some (([] : List (S42)), 0, 0, 3)))
def cyl_Dir.T9 : Bool × List (List Nat × List Nat) := (true, [([], []), ([0], [0]), ([], []), ([1, 2], [1, 2]), ([3], [3]), ([4], [4]), ([5, 4], [4, 5]), ([6, 4, 4], [4, 6]), ([7], [7]), ([8, 7], [7, 8]), ([7], [7]), ([7], [7]), ([10, 11, 7], [7, 10, 11]), ([12, 7], [7, 12]), ([13, 7], [7, 13]), ([9, 14, 7], [7, 9, 14]), ([7, 15, 4], [4, 7, 15]), ([4, 16], [4, 16])])
def cyl_Dir.B9 : List Nat := [0, 1, 0, 7, 15, 31, 63, 127, 255, 511, 255, 255, 3327, 7423, 15615, 32767, 65535, 131071]
theorem cyl_Dir.tab9 : rtab .any (opsOf Try.f23 9) = cyl_Dir.T9 := by kernel_rfl
theorem cyl_Dir.bits9 : waitsOk cyl_Dir.T9.2 cyl_Dir.B9 = true := by kernel_rfl
set_option maxHeartbeats 8000000 in
set_option maxRecDepth 100000 in
theorem cyl_Dir.calls (k : Nat) (A0 : Option Addr) (c0 : Nat) (l0 : List (S42)) (r1 : List (S42)) (r2 : Int) (r3 : Int) (r4 : Int) (w : World) (hr0 : Kd.C k42 w A0 l0.length l0) (hc0 : l0.length ≤ c0) (h : cyl_Dir.f k l0 = some (r1, r2, r3, r4)) :
  Calls Try.prog 23 #[.slice A0 l0.length c0] w fun e w' => ∃ v0_ : Value, e = .returned (.tuple #[v0_, .agg #[.int .i64 r2, .int .i64 r3], .int .i64 r4]) ∧ Kd.S k42 42 w' w.heap.size (fun _ => True) v0_ r1 ∧ Below w.heap.size w w' := by
 have hu24 := Try.underlying24
 have hu42 := Try.underlying42
 have HR0 := Aside0.mk hr0
 have HC0 := Aside0.mk hc0
 clear hr0 hc0
 have HB := Aside0.mk (Below.refl w.heap.size w)
 have H : ((cyl_Whole.f k l0).bind fun t356 => (if t356 = true then ((cyl_Free.f k l0).bind fun bt357 => (if (l0.length : Int) = 0 then (none) else (cyl_Dir.l0 k l0 (mx (wrap64 (Int.tdiv bt357.2 (l0.length : Int))) 1) (-1) l0 (l0.length : Int) 0))) else (some (([] : List (S42)), 0, 0, 3)))) = some (r1, r2, r3, r4) := h
 clear h
 replace H := Option.bind_eq_some_iff.mp H
 obtain ⟨t356, A20, H⟩ := H
 try dsimp -implicitDefEqProofs -simprocs only at H
 have A2 := Aside0.mk A20
 clear A20
 by_cases c3 : t356 = true
 ·subst c3
  have H1 : ((cyl_Free.f k l0).bind fun bt357 => (if (l0.length : Int) = 0 then (none) else (cyl_Dir.l0 k l0 (mx (wrap64 (Int.tdiv bt357.2 (l0.length : Int))) 1) (-1) l0 (l0.length : Int) 0))) = some (r1, r2, r3, r4) := by rw [if_pos rfl] at H; exact H
  clear H
  have H := H1
  clear H1
  replace H := Option.bind_eq_some_iff.mp H
  obtain ⟨⟨t357, t358⟩, A40, H⟩ := H
  try dsimp -implicitDefEqProofs -simprocs only at H
  have A4 := Aside0.mk A40
  clear A40
  by_cases c5 : (l0.length : Int) = 0
  ·rw [if_pos c5] at H
   exact absurd H (by simp)
  ·rw [if_neg c5] at H
   have c5b0 : ((l0.length : Int) == 0) = false := beq_eq_false_iff_ne.mpr c5
   have c5b1 : ((l0.length : Int) != 0) = true := bne_iff_ne.mpr c5
   have c5b2 : ¬ (l0 = []) := fun h_ => c5 (by rw [h_]; rfl)
   obtain ⟨ji6, hji6⟩ : ∃ j_ : Int, (mx (wrap64 (Int.tdiv t358 (l0.length : Int))) 1) = j_ := ⟨_, rfl⟩
   replace H : (cyl_Dir.l0 k l0 ji6 (-1) l0 (l0.length : Int) 0) = some (r1, r2, r3, r4) := by first | (rw [hji6] at H; exact H) | (simp only [hji6] at H ⊢; exact H)
   (try rw [hji6] at A2)
   (try rw [hji6] at A4)
   (try (have hji6l : 1 ≤ ji6 := by (rw [← hji6]; unfold mx; (repeat' split) <;> omega)))
   (try (have hji6m : 0 ≤ ji6 := by omega))
   have hji6_ : (if (wrap64 (Int.tdiv t358 (l0.length : Int))) < 1 then 1 else (wrap64 (Int.tdiv t358 (l0.length : Int)))) = ji6 := hji6
   have H' := Aside0.mk H
   clear H
   go_enter Try.func23, Try.ntmps23
   go_wp2_with (first | ((with_reducible refine gate_dst (N := 3) rfl ?_); refine box_event rfl (N := 3) rfl (cs := #[.int .i64 0, .int .i64 0]) (t := 24) (by first | (go_simp; done) | (go_simp; rfl)) ?_; intro gb355 hg w7 hbox hb; have BK355 := Aside0.mk (hbox); have GW355 := gs HB hg; have GE355 := gs HB hg; replace HB := Aside0.mk (below_step (bl HB) hb); clear hb hbox hg) | ((with_reducible refine gate_callee (f := 19) rfl ?_); refine goesL_ (some 15) rfl rfl Try.func19 (by kernel_rfl) rfl #[.slice A0 l0.length c0] rfl (by simp only [List.map_toArray, List.map_cons, List.map_nil]; first | done | rfl) ?_; (with_reducible refine (cyl_Whole.calls k _ _ l0 true _ ?side1 ?side2 A2.out).mono ?_); (case side1 => exact ck (Kd.C_below HR0.out HB.out)); (case side2 => exact HC0.out); rintro e w8 ⟨rfl, hb⟩; refine ⟨_, rfl, ?_⟩; replace BK355 := Aside0.mk (bb BK355 hb); replace HB := Aside0.mk (below_step (bs HB (by simp [ag, GE355.out])) hb); (try clear hb); (try clear hb2); (try clear hk); (try clear hi)) | ((with_reducible refine gate_callee (f := 22) rfl ?_); refine goesL_ (some 20) rfl rfl Try.func22 (by kernel_rfl) rfl #[.slice A0 l0.length c0] rfl (by simp only [List.map_toArray, List.map_cons, List.map_nil]; first | done | rfl) ?_; (with_reducible refine (cyl_Free.calls k _ _ l0 t357 t358 _ ?side1 ?side2 A4.out).mono ?_); (case side1 => exact ck (Kd.C_below HR0.out HB.out)); (case side2 => exact HC0.out); rintro e w9 ⟨rfl, hb⟩; refine ⟨_, rfl, ?_⟩; replace BK355 := Aside0.mk (bb BK355 hb); replace HB := Aside0.mk (below_step (bs HB (by simp [ag, GE355.out])) hb); (try clear hb); (try clear hb2); (try clear hk); (try clear hi)))
   go_loopg [8, 30] k (fun kq v8 v30 w' => ∃ (x8_1 : Int) (x30_1 : Int), v8 = .int .i64 x8_1 ∧ v30 = .int .i64 x30_1 ∧ Aside0 (cyl_Dir.l0 kq l0 ji6 x8_1 l0 (l0.length : Int) x30_1 = some (r1, r2, r3, r4)) ∧ Aside0 (kq ≤ k) ∧ Aside0 (w'.heap[gb355]? = some (.cells #[.int .i64 0, .int .i64 0] 24 (0, 0))) ∧ Aside0 (Below w.heap.size w w'))
   case atStart => exact ⟨((-1)), (0), (by first | rfl | (simp; done) | (simp [*]; done)), (by first | rfl | (simp; done) | (simp [*]; done)), H', ⟨Nat.le_refl _⟩, ⟨bk BK355⟩, ⟨bs HB (by simp [ag, GE355.out])⟩⟩
   case round =>
    clear H'
    try clear c1
    try clear c2
    try clear p2
    try clear c3
    try clear c5
    try clear c5b0
    try clear c5b1
    try clear c5b2
    try clear p6
    obtain ⟨x8_1, x30_1, rfl, rfl, HA, HK1, BK355, HB⟩ := hrel
    cases gk with
    | zero => exact absurd HA.out (by simp [cyl_Dir.l0])
    | succ k1 =>
     have H := HA.out
     clear HA
     simp only [cyl_Dir.l0] at H
     by_cases c10 : x30_1 < (l0.length : Int)
     ·rw [if_pos c10] at H
      have c10b0 : decide (x30_1 < (l0.length : Int)) = true := decide_eq_true c10
      clear c10
      by_cases c11 : 0 ≤ x30_1
      ·rw [if_pos c11] at H
       have c11b0 : decide (0 ≤ x30_1) = true := decide_eq_true c11
       clear c11
       by_cases c12 : x30_1 < (l0.length : Int)
       ·rw [if_pos c12] at H
        have c12b0 : decide (x30_1 < (l0.length : Int)) = true := decide_eq_true c12
        clear c12
        by_cases c13 : ((rd_T42 l0 x30_1).f3) ≥ ji6
        ·rw [if_pos c13] at H
         have c13b0 : decide (ji6 ≤ ((rd_T42 l0 x30_1).f3)) = true := decide_eq_true c13
         clear c13
         by_cases c14 : x8_1 < 0
         ·rw [if_pos c14] at H
          have c14b0 : decide (x8_1 < 0) = true := decide_eq_true c14
          clear c14
          have H' := Aside0.mk H
          clear H
          have p359 : 0 ≤ (x30_1 : Int) := of_decide_eq_true (by assumption)
          have q359 : x30_1 < (l0.length : Int) := of_decide_eq_true (by assumption)
          obtain ⟨ad359, A359_5, c359_5, A359_6, c359_6, e359, hx359_0, hx359_1, hx359_2, hx359_3, hx359_4, hx359_5, hx359_6, hl359_5, hi359_5, hl359_6, hi359_6⟩ := at_T42 HR0.out x30_1 p359 q359
          cases e359
          obtain ⟨hx359_0, hx359_1, hx359_2, hx359_3, hx359_4, hx359_5, hx359_6⟩ := cb7 HB.out hx359_0 hx359_1 hx359_2 hx359_3 hx359_4 hx359_5 hx359_6
          have HR359_5 := Aside0.mk hi359_5
          have HC359_5 := Aside0.mk hl359_5
          clear hi359_5 hl359_5
          have HR359_6 := Aside0.mk hi359_6
          have HC359_6 := Aside0.mk hl359_6
          clear hi359_6 hl359_6
          replace p359 := eq_true p359
          replace q359 := eq_true q359
          try go_wp2_with (first | ((with_reducible refine gate_dst (N := 10) rfl ?_); refine box_event rfl (N := 10) rfl (cs := #[.int .i64 0, .int .i64 0, .int .i64 0, .int .i64 0, .int .i64 0, .slice none 0 0, .slice none 0 0]) (t := 42) (by first | (go_simp; done) | (go_simp; rfl)) ?_; intro gb360 hg w15 hbox hb; have BK360 := Aside0.mk (hbox); have GW360 := gl HB hg (by simp [ag, GE355.out]); have GE360 := gl HB hg (by simp [ag, GE355.out]); replace HB := Aside0.mk (below_step (bs HB (by simp [ag, GE355.out])) hb); have NB355_360 := nl BK355 hg; have NB360_355 := nt BK355 hg; replace BK355 := Aside0.mk (bb BK355 hb); clear hb hbox hg; have hnb16 := NB360_355.out; have hnc16 := NB355_360.out; obtain ⟨hcz17_0, hcz17_1, hcz17_2, hcz17_3, hcz17_4, hcz17_5, hcz17_6, hfz17_0, hfz17_1, hfz17_2, hfz17_3, hfz17_4, hfz17_5, hfz17_6⟩ := cf7 BK360))
          have n0_ : Aside0 ((((((((w15.setCell ⟨gb360, 0, none⟩ (.int .i64 ((rd_T42 l0 x30_1).f0))).setCell ⟨gb360, 1, none⟩ (.int .i64 ((rd_T42 l0 x30_1).f1))).setCell ⟨gb360, 2, none⟩ (.int .i64 ((rd_T42 l0 x30_1).f2))).setCell ⟨gb360, 3, none⟩ (.int .i64 ((rd_T42 l0 x30_1).f3))).setCell ⟨gb360, 4, none⟩ (.int .i64 ((rd_T42 l0 x30_1).f4))).setCell ⟨gb360, 5, none⟩ (.slice A359_5 ((rd_T42 l0 x30_1).f5).length c359_5)).setCell ⟨gb360, 6, none⟩ (.slice A359_6 ((rd_T42 l0 x30_1).f6).length c359_6)).heap[gb355]? = some (.cells #[.int .i64 0, .int .i64 0] 24 (0, 0))) := ⟨by (with_reducible repeat (first | refine blk_drewN ?_ _ | refine blk_drew ?_ | refine blk_alloc ?_ _)); refine blk_far ?_ NB355_360.out _; (with_reducible repeat (first | refine blk_drewN ?_ _ | refine blk_drew ?_ | refine blk_alloc ?_ _)); refine blk_far ?_ NB355_360.out _; (with_reducible repeat (first | refine blk_drewN ?_ _ | refine blk_drew ?_ | refine blk_alloc ?_ _)); refine blk_far ?_ NB355_360.out _; (with_reducible repeat (first | refine blk_drewN ?_ _ | refine blk_drew ?_ | refine blk_alloc ?_ _)); refine blk_far ?_ NB355_360.out _; (with_reducible repeat (first | refine blk_drewN ?_ _ | refine blk_drew ?_ | refine blk_alloc ?_ _)); refine blk_far ?_ NB355_360.out _; (with_reducible repeat (first | refine blk_drewN ?_ _ | refine blk_drew ?_ | refine blk_alloc ?_ _)); refine blk_far ?_ NB355_360.out _; (with_reducible repeat (first | refine blk_drewN ?_ _ | refine blk_drew ?_ | refine blk_alloc ?_ _)); refine blk_far ?_ NB355_360.out _; (with_reducible repeat (first | refine blk_drewN ?_ _ | refine blk_drew ?_ | refine blk_alloc ?_ _)); exact BK355.out⟩
          have n1_ : Aside0 ((((((((w15.setCell ⟨gb360, 0, none⟩ (.int .i64 ((rd_T42 l0 x30_1).f0))).setCell ⟨gb360, 1, none⟩ (.int .i64 ((rd_T42 l0 x30_1).f1))).setCell ⟨gb360, 2, none⟩ (.int .i64 ((rd_T42 l0 x30_1).f2))).setCell ⟨gb360, 3, none⟩ (.int .i64 ((rd_T42 l0 x30_1).f3))).setCell ⟨gb360, 4, none⟩ (.int .i64 ((rd_T42 l0 x30_1).f4))).setCell ⟨gb360, 5, none⟩ (.slice A359_5 ((rd_T42 l0 x30_1).f5).length c359_5)).setCell ⟨gb360, 6, none⟩ (.slice A359_6 ((rd_T42 l0 x30_1).f6).length c359_6)).heap[gb360]? = some (.cells #[.int .i64 ((rd_T42 l0 x30_1).f0), .int .i64 ((rd_T42 l0 x30_1).f1), .int .i64 ((rd_T42 l0 x30_1).f2), .int .i64 ((rd_T42 l0 x30_1).f3), .int .i64 ((rd_T42 l0 x30_1).f4), .slice A359_5 ((rd_T42 l0 x30_1).f5).length c359_5, .slice A359_6 ((rd_T42 l0 x30_1).f6).length c359_6] 42 (0, 0))) := ⟨by (with_reducible repeat (first | refine blk_drewN ?_ _ | refine blk_drew ?_ | refine blk_alloc ?_ _)); refine blk_put (cs := #[.int .i64 ((rd_T42 l0 x30_1).f0), .int .i64 ((rd_T42 l0 x30_1).f1), .int .i64 ((rd_T42 l0 x30_1).f2), .int .i64 ((rd_T42 l0 x30_1).f3), .int .i64 ((rd_T42 l0 x30_1).f4), .slice A359_5 ((rd_T42 l0 x30_1).f5).length c359_5, .slice none 0 0]) ?_ 6 _ rfl; (with_reducible repeat (first | refine blk_drewN ?_ _ | refine blk_drew ?_ | refine blk_alloc ?_ _)); refine blk_put (cs := #[.int .i64 ((rd_T42 l0 x30_1).f0), .int .i64 ((rd_T42 l0 x30_1).f1), .int .i64 ((rd_T42 l0 x30_1).f2), .int .i64 ((rd_T42 l0 x30_1).f3), .int .i64 ((rd_T42 l0 x30_1).f4), .slice none 0 0, .slice none 0 0]) ?_ 5 _ rfl; (with_reducible repeat (first | refine blk_drewN ?_ _ | refine blk_drew ?_ | refine blk_alloc ?_ _)); refine blk_put (cs := #[.int .i64 ((rd_T42 l0 x30_1).f0), .int .i64 ((rd_T42 l0 x30_1).f1), .int .i64 ((rd_T42 l0 x30_1).f2), .int .i64 ((rd_T42 l0 x30_1).f3), .int .i64 0, .slice none 0 0, .slice none 0 0]) ?_ 4 _ rfl; (with_reducible repeat (first | refine blk_drewN ?_ _ | refine blk_drew ?_ | refine blk_alloc ?_ _)); refine blk_put (cs := #[.int .i64 ((rd_T42 l0 x30_1).f0), .int .i64 ((rd_T42 l0 x30_1).f1), .int .i64 ((rd_T42 l0 x30_1).f2), .int .i64 0, .int .i64 0, .slice none 0 0, .slice none 0 0]) ?_ 3 _ rfl; (with_reducible repeat (first | refine blk_drewN ?_ _ | refine blk_drew ?_ | refine blk_alloc ?_ _)); refine blk_put (cs := #[.int .i64 ((rd_T42 l0 x30_1).f0), .int .i64 ((rd_T42 l0 x30_1).f1), .int .i64 0, .int .i64 0, .int .i64 0, .slice none 0 0, .slice none 0 0]) ?_ 2 _ rfl; (with_reducible repeat (first | refine blk_drewN ?_ _ | refine blk_drew ?_ | refine blk_alloc ?_ _)); refine blk_put (cs := #[.int .i64 ((rd_T42 l0 x30_1).f0), .int .i64 0, .int .i64 0, .int .i64 0, .int .i64 0, .slice none 0 0, .slice none 0 0]) ?_ 1 _ rfl; (with_reducible repeat (first | refine blk_drewN ?_ _ | refine blk_drew ?_ | refine blk_alloc ?_ _)); refine blk_put (cs := #[.int .i64 0, .int .i64 0, .int .i64 0, .int .i64 0, .int .i64 0, .slice none 0 0, .slice none 0 0]) ?_ 0 _ rfl; (with_reducible repeat (first | refine blk_drewN ?_ _ | refine blk_drew ?_ | refine blk_alloc ?_ _)); exact BK360.out⟩
          have n2_ : Aside0 (Below w.heap.size w (((((((w15.setCell ⟨gb360, 0, none⟩ (.int .i64 ((rd_T42 l0 x30_1).f0))).setCell ⟨gb360, 1, none⟩ (.int .i64 ((rd_T42 l0 x30_1).f1))).setCell ⟨gb360, 2, none⟩ (.int .i64 ((rd_T42 l0 x30_1).f2))).setCell ⟨gb360, 3, none⟩ (.int .i64 ((rd_T42 l0 x30_1).f3))).setCell ⟨gb360, 4, none⟩ (.int .i64 ((rd_T42 l0 x30_1).f4))).setCell ⟨gb360, 5, none⟩ (.slice A359_5 ((rd_T42 l0 x30_1).f5).length c359_5)).setCell ⟨gb360, 6, none⟩ (.slice A359_6 ((rd_T42 l0 x30_1).f6).length c359_6))) := ⟨bs HB (by simp [ag, GE355.out, GE360.out])⟩
          (try clear BK355)
          (try clear BK360)
          (try clear HB)
          generalize (((((((w15.setCell ⟨gb360, 0, none⟩ (.int .i64 ((rd_T42 l0 x30_1).f0))).setCell ⟨gb360, 1, none⟩ (.int .i64 ((rd_T42 l0 x30_1).f1))).setCell ⟨gb360, 2, none⟩ (.int .i64 ((rd_T42 l0 x30_1).f2))).setCell ⟨gb360, 3, none⟩ (.int .i64 ((rd_T42 l0 x30_1).f3))).setCell ⟨gb360, 4, none⟩ (.int .i64 ((rd_T42 l0 x30_1).f4))).setCell ⟨gb360, 5, none⟩ (.slice A359_5 ((rd_T42 l0 x30_1).f5).length c359_5)).setCell ⟨gb360, 6, none⟩ (.slice A359_6 ((rd_T42 l0 x30_1).f6).length c359_6)) = w18 at n0_ n1_ n2_ ⊢
          have BK355 := n0_
          have BK360 := n1_
          have HB := n2_
          clear n0_ n1_ n2_
          have n0_ := Aside0.mk (blk_drew BK355.out)
          have n1_ := Aside0.mk (blk_drew BK360.out)
          have n2_ := Aside0.mk (below_drew1 HB.out)
          clear BK355
          clear BK360
          clear HB
          have BK355 := n0_
          have BK360 := n1_
          have HB := n2_
          clear n0_ n1_ n2_
          refine start_ (n := 18) (S := fun w' => w'.cell? ⟨gb360, 0, none⟩ = some (.int .i64 ((rd_T42 l0 x30_1).f0)) ∧ w'.cell? ⟨gb360, 1, none⟩ = some (.int .i64 ((rd_T42 l0 x30_1).f1)) ∧ w'.cell? ⟨gb360, 2, none⟩ = some (.int .i64 ((rd_T42 l0 x30_1).f2)) ∧ w'.cell? ⟨gb360, 3, none⟩ = some (.int .i64 ((rd_T42 l0 x30_1).f3)) ∧ w'.cell? ⟨gb360, 4, none⟩ = some (.int .i64 ((rd_T42 l0 x30_1).f4)) ∧ w'.cell? ⟨gb360, 5, none⟩ = some (.slice A359_5 ((rd_T42 l0 x30_1).f5).length c359_5) ∧ w'.cell? ⟨gb360, 6, none⟩ = some (.slice A359_6 ((rd_T42 l0 x30_1).f6).length c359_6)) (ds := []) #[false, false, false, false, false, false, false, false, false, false, false, false, false, false, false, false, false, false] (by kernel_rfl) rfl rfl ⟨(blk_cell BK360.out 0).trans rfl, (blk_cell BK360.out 1).trans rfl, (blk_cell BK360.out 2).trans rfl, (blk_cell BK360.out 3).trans rfl, (blk_cell BK360.out 4).trans rfl, (blk_cell BK360.out 5).trans rfl, (blk_cell BK360.out 6).trans rfl⟩ (fun hHeld => ?_); refine with_tabW cyl_Dir.tab9 cyl_Dir.bits9 (fun HT_ HW_ => ?_)
          generalize w18.drew = w19 at BK355 BK360 HB hHeld ⊢
          refine pure_ (i := 0) (N := some 35) (v := ?_) (a' := ?_) #[true, false, false, false, false, false, false, false, false, false, false, false, false, false, false, false, false, false] rfl rfl (any_of HT_.out (by kernel_rfl)) (fun _ _ _ h => h) (Or.inl ⟨by rfl, ?_⟩) ?_ ?_
          rotate_left
          ·intro w'
           go_simp
           with_reducible rfl
          rotate_left
          ·simp only [Act.put, List.setIfInBounds_toArray, List.set_cons_zero, List.set_cons_succ, i64_w, i32_w]
           rfl
          refine pure_ (i := 2) (N := some 37) (v := ?_) (a' := ?_) #[true, false, true, false, false, false, false, false, false, false, false, false, false, false, false, false, false, false] rfl rfl (any_of HT_.out (by kernel_rfl)) (fun _ _ _ h => h) (Or.inl ⟨by rfl, ?_⟩) ?_ ?_
          rotate_left
          ·intro w'
           go_simp
           with_reducible rfl
          rotate_left
          ·simp only [Act.put, List.setIfInBounds_toArray, List.set_cons_zero, List.set_cons_succ, i64_w, i32_w]
           rfl
          refine take_ (i := 1) (N := some 36) (v := ?_) (a' := ?_) #[true, true, true, false, false, false, false, false, false, false, false, false, false, false, false, false, false, false] rfl rfl (take_ofW HT_.out HW_.out (by kernel_rfl)) (fun _ _ _ h => h) (Or.inl ⟨by rfl, ?_⟩) hHeld ?_ ?_
          rotate_left
          ·rintro w' ⟨s0, s1, s2, s3, s4, s5, s6⟩
           go_simp
           with_reducible rfl
          rotate_left
          ·simp only [Act.put, List.setIfInBounds_toArray, List.set_cons_zero, List.set_cons_succ, i64_w, i32_w]
           rfl
          refine pure_ (i := 3) (N := some 38) (v := ?_) (a' := ?_) #[true, true, true, true, false, false, false, false, false, false, false, false, false, false, false, false, false, false] rfl rfl (any_of HT_.out (by kernel_rfl)) (fun _ _ _ h => h) (Or.inl ⟨by rfl, ?_⟩) ?_ ?_
          rotate_left
          ·intro w'
           go_simp
           with_reducible rfl
          rotate_left
          ·simp only [Act.put, List.setIfInBounds_toArray, List.set_cons_zero, List.set_cons_succ, i64_w, i32_w]
           rfl
          refine pure_ (i := 4) (N := some 39) (v := ?_) (a' := ?_) #[true, true, true, true, true, false, false, false, false, false, false, false, false, false, false, false, false, false] rfl rfl (any_of HT_.out (by kernel_rfl)) (fun _ _ _ h => h) (Or.inl ⟨by rfl, ?_⟩) ?_ ?_
          rotate_left
          ·intro w'
           go_simp
           with_reducible rfl
          rotate_left
          ·simp only [Act.put, List.setIfInBounds_toArray, List.set_cons_zero, List.set_cons_succ, i64_w, i32_w]
           rfl
          refine pure_ (i := 5) (N := some 40) (v := ?_) (a' := ?_) #[true, true, true, true, true, true, false, false, false, false, false, false, false, false, false, false, false, false] rfl rfl (any_of HT_.out (by kernel_rfl)) (fun _ _ _ h => h) (Or.inl ⟨by rfl, ?_⟩) ?_ ?_
          rotate_left
          ·intro w'
           go_simp
           with_reducible rfl
          rotate_left
          ·simp only [Act.put, List.setIfInBounds_toArray, List.set_cons_zero, List.set_cons_succ, i64_w, i32_w]
           rfl
          refine pure_ (i := 6) (N := some 41) (v := ?_) (a' := ?_) #[true, true, true, true, true, true, true, false, false, false, false, false, false, false, false, false, false, false] rfl rfl (any_of HT_.out (by kernel_rfl)) (fun _ _ _ h => h) (Or.inl ⟨by rfl, ?_⟩) ?_ ?_
          rotate_left
          ·intro w'
           go_simp
           with_reducible rfl
          rotate_left
          ·simp only [Act.put, List.setIfInBounds_toArray, List.set_cons_zero, List.set_cons_succ, i64_w, i32_w]
           rfl
          refine pure_ (i := 7) (N := some 42) (v := ?_) (a' := ?_) #[true, true, true, true, true, true, true, true, false, false, false, false, false, false, false, false, false, false] rfl rfl (any_of HT_.out (by kernel_rfl)) (fun _ _ _ h => h) (Or.inl ⟨by rfl, ?_⟩) ?_ ?_
          rotate_left
          ·intro w'
           go_simp
           with_reducible rfl
          rotate_left
          ·simp only [Act.put, List.setIfInBounds_toArray, List.set_cons_zero, List.set_cons_succ, i64_w, i32_w]
           rfl
          refine pure_ (i := 8) (N := some 43) (v := undef) (a' := ?_) #[true, true, true, true, true, true, true, true, true, false, false, false, false, false, false, false, false, false] rfl rfl (any_of HT_.out (by kernel_rfl)) (fun _ _ _ h => h) (Or.inr ⟨by rfl, rfl⟩) ?_ ?_
          rotate_left
          ·simp only [Act.put, List.setIfInBounds_toArray, List.set_cons_zero, List.set_cons_succ, i64_w, i32_w]
           rfl
          refine pure_ (i := 9) (N := some 44) (v := undef) (a' := ?_) #[true, true, true, true, true, true, true, true, true, true, false, false, false, false, false, false, false, false] rfl rfl (any_of HT_.out (by kernel_rfl)) (fun _ _ _ h => h) (Or.inr ⟨by rfl, rfl⟩) ?_ ?_
          rotate_left
          ·simp only [Act.put, List.setIfInBounds_toArray, List.set_cons_zero, List.set_cons_succ, i64_w, i32_w]
           rfl
          refine pure_ (i := 10) (N := some 45) (v := undef) (a' := ?_) #[true, true, true, true, true, true, true, true, true, true, true, false, false, false, false, false, false, false] rfl rfl (any_of HT_.out (by kernel_rfl)) (fun _ _ _ h => h) (Or.inr ⟨by rfl, rfl⟩) ?_ ?_
          rotate_left
          ·simp only [Act.put, List.setIfInBounds_toArray, List.set_cons_zero, List.set_cons_succ, i64_w, i32_w]
           rfl
          refine pure_ (i := 11) (N := some 46) (v := undef) (a' := ?_) #[true, true, true, true, true, true, true, true, true, true, true, true, false, false, false, false, false, false] rfl rfl (any_of HT_.out (by kernel_rfl)) (fun _ _ _ h => h) (Or.inr ⟨by rfl, rfl⟩) ?_ ?_
          rotate_left
          ·simp only [Act.put, List.setIfInBounds_toArray, List.set_cons_zero, List.set_cons_succ, i64_w, i32_w]
           rfl
          refine pure_ (i := 12) (N := some 47) (v := undef) (a' := ?_) #[true, true, true, true, true, true, true, true, true, true, true, true, true, false, false, false, false, false] rfl rfl (any_of HT_.out (by kernel_rfl)) (fun _ _ _ h => h) (Or.inr ⟨by rfl, rfl⟩) ?_ ?_
          rotate_left
          ·simp only [Act.put, List.setIfInBounds_toArray, List.set_cons_zero, List.set_cons_succ, i64_w, i32_w]
           rfl
          refine pure_ (i := 13) (N := some 48) (v := undef) (a' := ?_) #[true, true, true, true, true, true, true, true, true, true, true, true, true, true, false, false, false, false] rfl rfl (any_of HT_.out (by kernel_rfl)) (fun _ _ _ h => h) (Or.inr ⟨by rfl, rfl⟩) ?_ ?_
          rotate_left
          ·simp only [Act.put, List.setIfInBounds_toArray, List.set_cons_zero, List.set_cons_succ, i64_w, i32_w]
           rfl
          refine pure_ (i := 14) (N := some 49) (v := undef) (a' := ?_) #[true, true, true, true, true, true, true, true, true, true, true, true, true, true, true, false, false, false] rfl rfl (any_of HT_.out (by kernel_rfl)) (fun _ _ _ h => h) (Or.inr ⟨by rfl, rfl⟩) ?_ ?_
          rotate_left
          ·simp only [Act.put, List.setIfInBounds_toArray, List.set_cons_zero, List.set_cons_succ, i64_w, i32_w]
           rfl
          refine pure_ (i := 15) (N := some 50) (v := undef) (a' := ?_) #[true, true, true, true, true, true, true, true, true, true, true, true, true, true, true, true, false, false] rfl rfl (any_of HT_.out (by kernel_rfl)) (fun _ _ _ h => h) (Or.inr ⟨by rfl, rfl⟩) ?_ ?_
          rotate_left
          ·simp only [Act.put, List.setIfInBounds_toArray, List.set_cons_zero, List.set_cons_succ, i64_w, i32_w]
           rfl
          refine pure_ (i := 16) (N := some 51) (v := ?_) (a' := ?_) #[true, true, true, true, true, true, true, true, true, true, true, true, true, true, true, true, true, false] rfl rfl (any_of HT_.out (by kernel_rfl)) (fun _ _ _ h => h) (Or.inl ⟨by rfl, ?_⟩) ?_ ?_
          rotate_left
          ·intro w'
           go_simp
           with_reducible rfl
          rotate_left
          ·simp only [Act.put, List.setIfInBounds_toArray, List.set_cons_zero, List.set_cons_succ, i64_w, i32_w]
           rfl
          refine pure_ (i := 17) (N := some 52) (v := ?_) (a' := ?_) #[true, true, true, true, true, true, true, true, true, true, true, true, true, true, true, true, true, true] rfl rfl (any_of HT_.out (by kernel_rfl)) (fun _ _ _ h => h) (Or.inl ⟨by rfl, ?_⟩) ?_ ?_
          rotate_left
          ·intro w'
           go_simp
           with_reducible rfl
          rotate_left
          ·simp only [Act.put, List.setIfInBounds_toArray, List.set_cons_zero, List.set_cons_succ, i64_w, i32_w]
           rfl
          refine done_ (done_of HT_.out (by kernel_rfl)) ?_
          try go_wp2
          go_roundg k1
          case measure => have := HK1.out; omega
          case rel => exact ⟨(x30_1), (wrap64 (x30_1 + 1)), (by first | rfl | (simp; done) | (simp [*]; done)), (by first | rfl | (simp; done) | (simp [*]; done)), H', ⟨by have := HK1.out; omega⟩, ⟨bk BK355⟩, ⟨bs HB (by simp [ag, GE355.out, GE360.out])⟩⟩
         ·rw [if_neg c14] at H
          have c14b0 : decide (x8_1 < 0) = false := decide_eq_false c14
          clear c14
          by_cases c20 : 0 ≤ x8_1
          ·rw [if_pos c20] at H
           have c20b0 : decide (0 ≤ x8_1) = true := decide_eq_true c20
           clear c20
           by_cases c21 : x8_1 < (l0.length : Int)
           ·rw [if_pos c21] at H
            have c21b0 : decide (x8_1 < (l0.length : Int)) = true := decide_eq_true c21
            clear c21
            by_cases c22 : ((rd_T42 l0 x30_1).f2) > ((rd_T42 l0 x8_1).f2)
            ·rw [if_pos c22] at H
             have c22b0 : decide (((rd_T42 l0 x8_1).f2) < ((rd_T42 l0 x30_1).f2)) = true := decide_eq_true c22
             clear c22
             have H' := Aside0.mk H
             clear H
             have p359 : 0 ≤ (x30_1 : Int) := of_decide_eq_true (by assumption)
             have q359 : x30_1 < (l0.length : Int) := of_decide_eq_true (by assumption)
             obtain ⟨ad359, A359_5, c359_5, A359_6, c359_6, e359, hx359_0, hx359_1, hx359_2, hx359_3, hx359_4, hx359_5, hx359_6, hl359_5, hi359_5, hl359_6, hi359_6⟩ := at_T42 HR0.out x30_1 p359 q359
             cases e359
             obtain ⟨hx359_0, hx359_1, hx359_2, hx359_3, hx359_4, hx359_5, hx359_6⟩ := cb7 HB.out hx359_0 hx359_1 hx359_2 hx359_3 hx359_4 hx359_5 hx359_6
             have HR359_5 := Aside0.mk hi359_5
             have HC359_5 := Aside0.mk hl359_5
             clear hi359_5 hl359_5
             have HR359_6 := Aside0.mk hi359_6
             have HC359_6 := Aside0.mk hl359_6
             clear hi359_6 hl359_6
             replace p359 := eq_true p359
             replace q359 := eq_true q359
             try go_wp2_with (first | ((with_reducible refine gate_dst (N := 10) rfl ?_); refine box_event rfl (N := 10) rfl (cs := #[.int .i64 0, .int .i64 0, .int .i64 0, .int .i64 0, .int .i64 0, .slice none 0 0, .slice none 0 0]) (t := 42) (by first | (go_simp; done) | (go_simp; rfl)) ?_; intro gb360 hg w23 hbox hb; have BK360 := Aside0.mk (hbox); have GW360 := gl HB hg (by simp [ag, GE355.out]); have GE360 := gl HB hg (by simp [ag, GE355.out]); replace HB := Aside0.mk (below_step (bs HB (by simp [ag, GE355.out])) hb); have NB355_360 := nl BK355 hg; have NB360_355 := nt BK355 hg; replace BK355 := Aside0.mk (bb BK355 hb); clear hb hbox hg; have hnb24 := NB360_355.out; have hnc24 := NB355_360.out; obtain ⟨hcz25_0, hcz25_1, hcz25_2, hcz25_3, hcz25_4, hcz25_5, hcz25_6, hfz25_0, hfz25_1, hfz25_2, hfz25_3, hfz25_4, hfz25_5, hfz25_6⟩ := cf7 BK360))
             have n0_ : Aside0 ((((((((w23.setCell ⟨gb360, 0, none⟩ (.int .i64 ((rd_T42 l0 x30_1).f0))).setCell ⟨gb360, 1, none⟩ (.int .i64 ((rd_T42 l0 x30_1).f1))).setCell ⟨gb360, 2, none⟩ (.int .i64 ((rd_T42 l0 x30_1).f2))).setCell ⟨gb360, 3, none⟩ (.int .i64 ((rd_T42 l0 x30_1).f3))).setCell ⟨gb360, 4, none⟩ (.int .i64 ((rd_T42 l0 x30_1).f4))).setCell ⟨gb360, 5, none⟩ (.slice A359_5 ((rd_T42 l0 x30_1).f5).length c359_5)).setCell ⟨gb360, 6, none⟩ (.slice A359_6 ((rd_T42 l0 x30_1).f6).length c359_6)).heap[gb355]? = some (.cells #[.int .i64 0, .int .i64 0] 24 (0, 0))) := ⟨by (with_reducible repeat (first | refine blk_drewN ?_ _ | refine blk_drew ?_ | refine blk_alloc ?_ _)); refine blk_far ?_ NB355_360.out _; (with_reducible repeat (first | refine blk_drewN ?_ _ | refine blk_drew ?_ | refine blk_alloc ?_ _)); refine blk_far ?_ NB355_360.out _; (with_reducible repeat (first | refine blk_drewN ?_ _ | refine blk_drew ?_ | refine blk_alloc ?_ _)); refine blk_far ?_ NB355_360.out _; (with_reducible repeat (first | refine blk_drewN ?_ _ | refine blk_drew ?_ | refine blk_alloc ?_ _)); refine blk_far ?_ NB355_360.out _; (with_reducible repeat (first | refine blk_drewN ?_ _ | refine blk_drew ?_ | refine blk_alloc ?_ _)); refine blk_far ?_ NB355_360.out _; (with_reducible repeat (first | refine blk_drewN ?_ _ | refine blk_drew ?_ | refine blk_alloc ?_ _)); refine blk_far ?_ NB355_360.out _; (with_reducible repeat (first | refine blk_drewN ?_ _ | refine blk_drew ?_ | refine blk_alloc ?_ _)); refine blk_far ?_ NB355_360.out _; (with_reducible repeat (first | refine blk_drewN ?_ _ | refine blk_drew ?_ | refine blk_alloc ?_ _)); exact BK355.out⟩
             have n1_ : Aside0 ((((((((w23.setCell ⟨gb360, 0, none⟩ (.int .i64 ((rd_T42 l0 x30_1).f0))).setCell ⟨gb360, 1, none⟩ (.int .i64 ((rd_T42 l0 x30_1).f1))).setCell ⟨gb360, 2, none⟩ (.int .i64 ((rd_T42 l0 x30_1).f2))).setCell ⟨gb360, 3, none⟩ (.int .i64 ((rd_T42 l0 x30_1).f3))).setCell ⟨gb360, 4, none⟩ (.int .i64 ((rd_T42 l0 x30_1).f4))).setCell ⟨gb360, 5, none⟩ (.slice A359_5 ((rd_T42 l0 x30_1).f5).length c359_5)).setCell ⟨gb360, 6, none⟩ (.slice A359_6 ((rd_T42 l0 x30_1).f6).length c359_6)).heap[gb360]? = some (.cells #[.int .i64 ((rd_T42 l0 x30_1).f0), .int .i64 ((rd_T42 l0 x30_1).f1), .int .i64 ((rd_T42 l0 x30_1).f2), .int .i64 ((rd_T42 l0 x30_1).f3), .int .i64 ((rd_T42 l0 x30_1).f4), .slice A359_5 ((rd_T42 l0 x30_1).f5).length c359_5, .slice A359_6 ((rd_T42 l0 x30_1).f6).length c359_6] 42 (0, 0))) := ⟨by (with_reducible repeat (first | refine blk_drewN ?_ _ | refine blk_drew ?_ | refine blk_alloc ?_ _)); refine blk_put (cs := #[.int .i64 ((rd_T42 l0 x30_1).f0), .int .i64 ((rd_T42 l0 x30_1).f1), .int .i64 ((rd_T42 l0 x30_1).f2), .int .i64 ((rd_T42 l0 x30_1).f3), .int .i64 ((rd_T42 l0 x30_1).f4), .slice A359_5 ((rd_T42 l0 x30_1).f5).length c359_5, .slice none 0 0]) ?_ 6 _ rfl; (with_reducible repeat (first | refine blk_drewN ?_ _ | refine blk_drew ?_ | refine blk_alloc ?_ _)); refine blk_put (cs := #[.int .i64 ((rd_T42 l0 x30_1).f0), .int .i64 ((rd_T42 l0 x30_1).f1), .int .i64 ((rd_T42 l0 x30_1).f2), .int .i64 ((rd_T42 l0 x30_1).f3), .int .i64 ((rd_T42 l0 x30_1).f4), .slice none 0 0, .slice none 0 0]) ?_ 5 _ rfl; (with_reducible repeat (first | refine blk_drewN ?_ _ | refine blk_drew ?_ | refine blk_alloc ?_ _)); refine blk_put (cs := #[.int .i64 ((rd_T42 l0 x30_1).f0), .int .i64 ((rd_T42 l0 x30_1).f1), .int .i64 ((rd_T42 l0 x30_1).f2), .int .i64 ((rd_T42 l0 x30_1).f3), .int .i64 0, .slice none 0 0, .slice none 0 0]) ?_ 4 _ rfl; (with_reducible repeat (first | refine blk_drewN ?_ _ | refine blk_drew ?_ | refine blk_alloc ?_ _)); refine blk_put (cs := #[.int .i64 ((rd_T42 l0 x30_1).f0), .int .i64 ((rd_T42 l0 x30_1).f1), .int .i64 ((rd_T42 l0 x30_1).f2), .int .i64 0, .int .i64 0, .slice none 0 0, .slice none 0 0]) ?_ 3 _ rfl; (with_reducible repeat (first | refine blk_drewN ?_ _ | refine blk_drew ?_ | refine blk_alloc ?_ _)); refine blk_put (cs := #[.int .i64 ((rd_T42 l0 x30_1).f0), .int .i64 ((rd_T42 l0 x30_1).f1), .int .i64 0, .int .i64 0, .int .i64 0, .slice none 0 0, .slice none 0 0]) ?_ 2 _ rfl; (with_reducible repeat (first | refine blk_drewN ?_ _ | refine blk_drew ?_ | refine blk_alloc ?_ _)); refine blk_put (cs := #[.int .i64 ((rd_T42 l0 x30_1).f0), .int .i64 0, .int .i64 0, .int .i64 0, .int .i64 0, .slice none 0 0, .slice none 0 0]) ?_ 1 _ rfl; (with_reducible repeat (first | refine blk_drewN ?_ _ | refine blk_drew ?_ | refine blk_alloc ?_ _)); refine blk_put (cs := #[.int .i64 0, .int .i64 0, .int .i64 0, .int .i64 0, .int .i64 0, .slice none 0 0, .slice none 0 0]) ?_ 0 _ rfl; (with_reducible repeat (first | refine blk_drewN ?_ _ | refine blk_drew ?_ | refine blk_alloc ?_ _)); exact BK360.out⟩
             have n2_ : Aside0 (Below w.heap.size w (((((((w23.setCell ⟨gb360, 0, none⟩ (.int .i64 ((rd_T42 l0 x30_1).f0))).setCell ⟨gb360, 1, none⟩ (.int .i64 ((rd_T42 l0 x30_1).f1))).setCell ⟨gb360, 2, none⟩ (.int .i64 ((rd_T42 l0 x30_1).f2))).setCell ⟨gb360, 3, none⟩ (.int .i64 ((rd_T42 l0 x30_1).f3))).setCell ⟨gb360, 4, none⟩ (.int .i64 ((rd_T42 l0 x30_1).f4))).setCell ⟨gb360, 5, none⟩ (.slice A359_5 ((rd_T42 l0 x30_1).f5).length c359_5)).setCell ⟨gb360, 6, none⟩ (.slice A359_6 ((rd_T42 l0 x30_1).f6).length c359_6))) := ⟨bs HB (by simp [ag, GE355.out, GE360.out])⟩
             (try clear BK355)
             (try clear BK360)
             (try clear HB)
             generalize (((((((w23.setCell ⟨gb360, 0, none⟩ (.int .i64 ((rd_T42 l0 x30_1).f0))).setCell ⟨gb360, 1, none⟩ (.int .i64 ((rd_T42 l0 x30_1).f1))).setCell ⟨gb360, 2, none⟩ (.int .i64 ((rd_T42 l0 x30_1).f2))).setCell ⟨gb360, 3, none⟩ (.int .i64 ((rd_T42 l0 x30_1).f3))).setCell ⟨gb360, 4, none⟩ (.int .i64 ((rd_T42 l0 x30_1).f4))).setCell ⟨gb360, 5, none⟩ (.slice A359_5 ((rd_T42 l0 x30_1).f5).length c359_5)).setCell ⟨gb360, 6, none⟩ (.slice A359_6 ((rd_T42 l0 x30_1).f6).length c359_6)) = w26 at n0_ n1_ n2_ ⊢
             have BK355 := n0_
             have BK360 := n1_
             have HB := n2_
             clear n0_ n1_ n2_
             have n0_ := Aside0.mk (blk_drew BK355.out)
             have n1_ := Aside0.mk (blk_drew BK360.out)
             have n2_ := Aside0.mk (below_drew1 HB.out)
             clear BK355
             clear BK360
             clear HB
             have BK355 := n0_
             have BK360 := n1_
             have HB := n2_
             clear n0_ n1_ n2_
             have p361 : 0 ≤ (x8_1 : Int) := of_decide_eq_true (by assumption)
             have q361 : x8_1 < (l0.length : Int) := of_decide_eq_true (by assumption)
             obtain ⟨ad361, A361_5, c361_5, A361_6, c361_6, e361, hx361_0, hx361_1, hx361_2, hx361_3, hx361_4, hx361_5, hx361_6, hl361_5, hi361_5, hl361_6, hi361_6⟩ := at_T42 HR0.out x8_1 p361 q361
             have hw361_6 := hx361_6
             have hw361_5 := hx361_5
             have hw361_4 := hx361_4
             have hw361_3 := hx361_3
             have hw361_2 := hx361_2
             have hw361_1 := hx361_1
             have hw361_0 := hx361_0
             obtain rfl : ad359 = ad361 := (by injection e361)
             obtain ⟨hx361_0, hx361_1, hx361_2, hx361_3, hx361_4, hx361_5, hx361_6⟩ := cb7 HB.out hx361_0 hx361_1 hx361_2 hx361_3 hx361_4 hx361_5 hx361_6
             have HR361_5 := Aside0.mk hi361_5
             have HC361_5 := Aside0.mk hl361_5
             clear hi361_5 hl361_5
             have HR361_6 := Aside0.mk hi361_6
             have HC361_6 := Aside0.mk hl361_6
             clear hi361_6 hl361_6
             replace p361 := eq_true p361
             replace q361 := eq_true q361
             refine start_ (n := 18) (S := fun w' => w'.cell? ⟨gb360, 0, none⟩ = some (.int .i64 ((rd_T42 l0 x30_1).f0)) ∧ w'.cell? ⟨gb360, 1, none⟩ = some (.int .i64 ((rd_T42 l0 x30_1).f1)) ∧ w'.cell? ⟨gb360, 2, none⟩ = some (.int .i64 ((rd_T42 l0 x30_1).f2)) ∧ w'.cell? ⟨gb360, 3, none⟩ = some (.int .i64 ((rd_T42 l0 x30_1).f3)) ∧ w'.cell? ⟨gb360, 4, none⟩ = some (.int .i64 ((rd_T42 l0 x30_1).f4)) ∧ w'.cell? ⟨gb360, 5, none⟩ = some (.slice A359_5 ((rd_T42 l0 x30_1).f5).length c359_5) ∧ w'.cell? ⟨gb360, 6, none⟩ = some (.slice A359_6 ((rd_T42 l0 x30_1).f6).length c359_6) ∧ w'.cell? (ad359.add ((x8_1).toNat * 7)) = some (.int .i64 ((rd_T42 l0 x8_1).f0)) ∧ w'.cell? ⟨(ad359.add ((x8_1).toNat * 7)).block, (ad359.add ((x8_1).toNat * 7)).off + 1, none⟩ = some (.int .i64 ((rd_T42 l0 x8_1).f1)) ∧ w'.cell? ⟨(ad359.add ((x8_1).toNat * 7)).block, (ad359.add ((x8_1).toNat * 7)).off + 2, none⟩ = some (.int .i64 ((rd_T42 l0 x8_1).f2)) ∧ w'.cell? ⟨(ad359.add ((x8_1).toNat * 7)).block, (ad359.add ((x8_1).toNat * 7)).off + 3, none⟩ = some (.int .i64 ((rd_T42 l0 x8_1).f3)) ∧ w'.cell? ⟨(ad359.add ((x8_1).toNat * 7)).block, (ad359.add ((x8_1).toNat * 7)).off + 4, none⟩ = some (.int .i64 ((rd_T42 l0 x8_1).f4)) ∧ w'.cell? ⟨(ad359.add ((x8_1).toNat * 7)).block, (ad359.add ((x8_1).toNat * 7)).off + 5, none⟩ = some (.slice A361_5 ((rd_T42 l0 x8_1).f5).length c361_5) ∧ w'.cell? ⟨(ad359.add ((x8_1).toNat * 7)).block, (ad359.add ((x8_1).toNat * 7)).off + 6, none⟩ = some (.slice A361_6 ((rd_T42 l0 x8_1).f6).length c361_6)) (ds := []) #[false, false, false, false, false, false, false, false, false, false, false, false, false, false, false, false, false, false] (by kernel_rfl) rfl rfl ⟨(blk_cell BK360.out 0).trans rfl, (blk_cell BK360.out 1).trans rfl, (blk_cell BK360.out 2).trans rfl, (blk_cell BK360.out 3).trans rfl, (blk_cell BK360.out 4).trans rfl, (blk_cell BK360.out 5).trans rfl, (blk_cell BK360.out 6).trans rfl, (pw_cell_below HB.out hw361_0), (pw_cell_below HB.out hw361_1), (pw_cell_below HB.out hw361_2), (pw_cell_below HB.out hw361_3), (pw_cell_below HB.out hw361_4), (pw_cell_below HB.out hw361_5), (pw_cell_below HB.out hw361_6)⟩ (fun hHeld => ?_); refine with_tabW cyl_Dir.tab9 cyl_Dir.bits9 (fun HT_ HW_ => ?_)
             generalize w26.drew = w27 at BK355 BK360 HB HR361_5 HR361_6 hx361_0 hx361_1 hx361_2 hx361_3 hx361_4 hx361_5 hx361_6 hHeld ⊢
             refine pure_ (i := 0) (N := some 35) (v := ?_) (a' := ?_) #[true, false, false, false, false, false, false, false, false, false, false, false, false, false, false, false, false, false] rfl rfl (any_of HT_.out (by kernel_rfl)) (fun _ _ _ h => h) (Or.inl ⟨by rfl, ?_⟩) ?_ ?_
             rotate_left
             ·intro w'
              go_simp
              with_reducible rfl
             rotate_left
             ·simp only [Act.put, List.setIfInBounds_toArray, List.set_cons_zero, List.set_cons_succ, i64_w, i32_w]
              rfl
             refine pure_ (i := 2) (N := some 37) (v := ?_) (a' := ?_) #[true, false, true, false, false, false, false, false, false, false, false, false, false, false, false, false, false, false] rfl rfl (any_of HT_.out (by kernel_rfl)) (fun _ _ _ h => h) (Or.inl ⟨by rfl, ?_⟩) ?_ ?_
             rotate_left
             ·intro w'
              go_simp
              with_reducible rfl
             rotate_left
             ·simp only [Act.put, List.setIfInBounds_toArray, List.set_cons_zero, List.set_cons_succ, i64_w, i32_w]
              rfl
             refine take_ (i := 1) (N := some 36) (v := ?_) (a' := ?_) #[true, true, true, false, false, false, false, false, false, false, false, false, false, false, false, false, false, false] rfl rfl (take_ofW HT_.out HW_.out (by kernel_rfl)) (fun _ _ _ h => h) (Or.inl ⟨by rfl, ?_⟩) hHeld ?_ ?_
             rotate_left
             ·rintro w' ⟨s0, s1, s2, s3, s4, s5, s6, s7, s8, s9, s10, s11, s12, s13⟩
              go_simp
              with_reducible rfl
             rotate_left
             ·simp only [Act.put, List.setIfInBounds_toArray, List.set_cons_zero, List.set_cons_succ, i64_w, i32_w]
              rfl
             refine pure_ (i := 3) (N := some 38) (v := ?_) (a' := ?_) #[true, true, true, true, false, false, false, false, false, false, false, false, false, false, false, false, false, false] rfl rfl (any_of HT_.out (by kernel_rfl)) (fun _ _ _ h => h) (Or.inl ⟨by rfl, ?_⟩) ?_ ?_
             rotate_left
             ·intro w'
              go_simp
              with_reducible rfl
             rotate_left
             ·simp only [Act.put, List.setIfInBounds_toArray, List.set_cons_zero, List.set_cons_succ, i64_w, i32_w]
              rfl
             refine pure_ (i := 4) (N := some 39) (v := ?_) (a' := ?_) #[true, true, true, true, true, false, false, false, false, false, false, false, false, false, false, false, false, false] rfl rfl (any_of HT_.out (by kernel_rfl)) (fun _ _ _ h => h) (Or.inl ⟨by rfl, ?_⟩) ?_ ?_
             rotate_left
             ·intro w'
              go_simp
              with_reducible rfl
             rotate_left
             ·simp only [Act.put, List.setIfInBounds_toArray, List.set_cons_zero, List.set_cons_succ, i64_w, i32_w]
              rfl
             refine pure_ (i := 5) (N := some 40) (v := ?_) (a' := ?_) #[true, true, true, true, true, true, false, false, false, false, false, false, false, false, false, false, false, false] rfl rfl (any_of HT_.out (by kernel_rfl)) (fun _ _ _ h => h) (Or.inl ⟨by rfl, ?_⟩) ?_ ?_
             rotate_left
             ·intro w'
              go_simp
              with_reducible rfl
             rotate_left
             ·simp only [Act.put, List.setIfInBounds_toArray, List.set_cons_zero, List.set_cons_succ, i64_w, i32_w]
              rfl
             refine pure_ (i := 6) (N := some 41) (v := ?_) (a' := ?_) #[true, true, true, true, true, true, true, false, false, false, false, false, false, false, false, false, false, false] rfl rfl (any_of HT_.out (by kernel_rfl)) (fun _ _ _ h => h) (Or.inl ⟨by rfl, ?_⟩) ?_ ?_
             rotate_left
             ·intro w'
              go_simp
              with_reducible rfl
             rotate_left
             ·simp only [Act.put, List.setIfInBounds_toArray, List.set_cons_zero, List.set_cons_succ, i64_w, i32_w]
              rfl
             refine pure_ (i := 7) (N := some 42) (v := ?_) (a' := ?_) #[true, true, true, true, true, true, true, true, false, false, false, false, false, false, false, false, false, false] rfl rfl (any_of HT_.out (by kernel_rfl)) (fun _ _ _ h => h) (Or.inl ⟨by rfl, ?_⟩) ?_ ?_
             rotate_left
             ·intro w'
              go_simp
              with_reducible rfl
             rotate_left
             ·simp only [Act.put, List.setIfInBounds_toArray, List.set_cons_zero, List.set_cons_succ, i64_w, i32_w]
              rfl
             refine pure_ (i := 8) (N := some 43) (v := ?_) (a' := ?_) #[true, true, true, true, true, true, true, true, true, false, false, false, false, false, false, false, false, false] rfl rfl (any_of HT_.out (by kernel_rfl)) (fun _ _ _ h => h) (Or.inl ⟨by rfl, ?_⟩) ?_ ?_
             rotate_left
             ·intro w'
              go_simp
              with_reducible rfl
             rotate_left
             ·simp only [Act.put, List.setIfInBounds_toArray, List.set_cons_zero, List.set_cons_succ, i64_w, i32_w]
              rfl
             refine pure_ (i := 10) (N := some 45) (v := ?_) (a' := ?_) #[true, true, true, true, true, true, true, true, true, false, true, false, false, false, false, false, false, false] rfl rfl (any_of HT_.out (by kernel_rfl)) (fun _ _ _ h => h) (Or.inl ⟨by rfl, ?_⟩) ?_ ?_
             rotate_left
             ·intro w'
              go_simp
              with_reducible rfl
             rotate_left
             ·simp only [Act.put, List.setIfInBounds_toArray, List.set_cons_zero, List.set_cons_succ, i64_w, i32_w]
              rfl
             refine pure_ (i := 11) (N := some 46) (v := ?_) (a' := ?_) #[true, true, true, true, true, true, true, true, true, false, true, true, false, false, false, false, false, false] rfl rfl (any_of HT_.out (by kernel_rfl)) (fun _ _ _ h => h) (Or.inl ⟨by rfl, ?_⟩) ?_ ?_
             rotate_left
             ·intro w'
              go_simp
              with_reducible rfl
             rotate_left
             ·simp only [Act.put, List.setIfInBounds_toArray, List.set_cons_zero, List.set_cons_succ, i64_w, i32_w]
              rfl
             refine pure_ (i := 12) (N := some 47) (v := ?_) (a' := ?_) #[true, true, true, true, true, true, true, true, true, false, true, true, true, false, false, false, false, false] rfl rfl (any_of HT_.out (by kernel_rfl)) (fun _ _ _ h => h) (Or.inl ⟨by rfl, ?_⟩) ?_ ?_
             rotate_left
             ·intro w'
              go_simp
              with_reducible rfl
             rotate_left
             ·simp only [Act.put, List.setIfInBounds_toArray, List.set_cons_zero, List.set_cons_succ, i64_w, i32_w]
              rfl
             refine pure_ (i := 13) (N := some 48) (v := ?_) (a' := ?_) #[true, true, true, true, true, true, true, true, true, false, true, true, true, true, false, false, false, false] rfl rfl (any_of HT_.out (by kernel_rfl)) (fun _ _ _ h => h) (Or.inl ⟨by rfl, ?_⟩) ?_ ?_
             rotate_left
             ·intro w'
              go_simp
              with_reducible rfl
             rotate_left
             ·simp only [Act.put, List.setIfInBounds_toArray, List.set_cons_zero, List.set_cons_succ, i64_w, i32_w]
              rfl
             refine take_ (i := 9) (N := some 44) (v := ?_) (a' := ?_) #[true, true, true, true, true, true, true, true, true, true, true, true, true, true, false, false, false, false] rfl rfl (take_ofW HT_.out HW_.out (by kernel_rfl)) (fun _ _ _ h => h) (Or.inl ⟨by rfl, ?_⟩) hHeld ?_ ?_
             rotate_left
             ·rintro w' ⟨s0, s1, s2, s3, s4, s5, s6, s7, s8, s9, s10, s11, s12, s13⟩
              go_simp
              with_reducible rfl
             rotate_left
             ·simp only [Act.put, List.setIfInBounds_toArray, List.set_cons_zero, List.set_cons_succ, i64_w, i32_w]
              rfl
             refine take_ (i := 14) (N := some 49) (v := ?_) (a' := ?_) #[true, true, true, true, true, true, true, true, true, true, true, true, true, true, true, false, false, false] rfl rfl (take_ofW HT_.out HW_.out (by kernel_rfl)) (fun _ _ _ h => h) (Or.inl ⟨by rfl, ?_⟩) hHeld ?_ ?_
             rotate_left
             ·rintro w' ⟨s0, s1, s2, s3, s4, s5, s6, s7, s8, s9, s10, s11, s12, s13⟩
              go_simp
              with_reducible rfl
             rotate_left
             ·simp only [Act.put, List.setIfInBounds_toArray, List.set_cons_zero, List.set_cons_succ, i64_w, i32_w]
              rfl
             refine pure_ (i := 15) (N := some 50) (v := ?_) (a' := ?_) #[true, true, true, true, true, true, true, true, true, true, true, true, true, true, true, true, false, false] rfl rfl (any_of HT_.out (by kernel_rfl)) (fun _ _ _ h => h) (Or.inl ⟨by rfl, ?_⟩) ?_ ?_
             rotate_left
             ·intro w'
              go_simp
              with_reducible rfl
             rotate_left
             ·simp only [Act.put, List.setIfInBounds_toArray, List.set_cons_zero, List.set_cons_succ, i64_w, i32_w]
              rfl
             refine pure_ (i := 16) (N := some 51) (v := ?_) (a' := ?_) #[true, true, true, true, true, true, true, true, true, true, true, true, true, true, true, true, true, false] rfl rfl (any_of HT_.out (by kernel_rfl)) (fun _ _ _ h => h) (Or.inl ⟨by rfl, ?_⟩) ?_ ?_
             rotate_left
             ·intro w'
              go_simp
              with_reducible rfl
             rotate_left
             ·simp only [Act.put, List.setIfInBounds_toArray, List.set_cons_zero, List.set_cons_succ, i64_w, i32_w]
              rfl
             refine pure_ (i := 17) (N := some 52) (v := ?_) (a' := ?_) #[true, true, true, true, true, true, true, true, true, true, true, true, true, true, true, true, true, true] rfl rfl (any_of HT_.out (by kernel_rfl)) (fun _ _ _ h => h) (Or.inl ⟨by rfl, ?_⟩) ?_ ?_
             rotate_left
             ·intro w'
              go_simp
              with_reducible rfl
             rotate_left
             ·simp only [Act.put, List.setIfInBounds_toArray, List.set_cons_zero, List.set_cons_succ, i64_w, i32_w]
              rfl
             refine done_ (done_of HT_.out (by kernel_rfl)) ?_
             try go_wp2
             go_roundg k1
             case measure => have := HK1.out; omega
             case rel => exact ⟨(x30_1), (wrap64 (x30_1 + 1)), (by first | rfl | (simp; done) | (simp [*]; done)), (by first | rfl | (simp; done) | (simp [*]; done)), H', ⟨by have := HK1.out; omega⟩, ⟨bk BK355⟩, ⟨bs HB (by simp [ag, GE355.out, GE360.out])⟩⟩
            ·rw [if_neg c22] at H
             have c22b0 : decide (((rd_T42 l0 x8_1).f2) < ((rd_T42 l0 x30_1).f2)) = false := decide_eq_false c22
             clear c22
             have H' := Aside0.mk H
             clear H
             have p359 : 0 ≤ (x30_1 : Int) := of_decide_eq_true (by assumption)
             have q359 : x30_1 < (l0.length : Int) := of_decide_eq_true (by assumption)
             obtain ⟨ad359, A359_5, c359_5, A359_6, c359_6, e359, hx359_0, hx359_1, hx359_2, hx359_3, hx359_4, hx359_5, hx359_6, hl359_5, hi359_5, hl359_6, hi359_6⟩ := at_T42 HR0.out x30_1 p359 q359
             cases e359
             obtain ⟨hx359_0, hx359_1, hx359_2, hx359_3, hx359_4, hx359_5, hx359_6⟩ := cb7 HB.out hx359_0 hx359_1 hx359_2 hx359_3 hx359_4 hx359_5 hx359_6
             have HR359_5 := Aside0.mk hi359_5
             have HC359_5 := Aside0.mk hl359_5
             clear hi359_5 hl359_5
             have HR359_6 := Aside0.mk hi359_6
             have HC359_6 := Aside0.mk hl359_6
             clear hi359_6 hl359_6
             replace p359 := eq_true p359
             replace q359 := eq_true q359
             try go_wp2_with (first | ((with_reducible refine gate_dst (N := 10) rfl ?_); refine box_event rfl (N := 10) rfl (cs := #[.int .i64 0, .int .i64 0, .int .i64 0, .int .i64 0, .int .i64 0, .slice none 0 0, .slice none 0 0]) (t := 42) (by first | (go_simp; done) | (go_simp; rfl)) ?_; intro gb360 hg w28 hbox hb; have BK360 := Aside0.mk (hbox); have GW360 := gl HB hg (by simp [ag, GE355.out]); have GE360 := gl HB hg (by simp [ag, GE355.out]); replace HB := Aside0.mk (below_step (bs HB (by simp [ag, GE355.out])) hb); have NB355_360 := nl BK355 hg; have NB360_355 := nt BK355 hg; replace BK355 := Aside0.mk (bb BK355 hb); clear hb hbox hg; have hnb29 := NB360_355.out; have hnc29 := NB355_360.out; obtain ⟨hcz30_0, hcz30_1, hcz30_2, hcz30_3, hcz30_4, hcz30_5, hcz30_6, hfz30_0, hfz30_1, hfz30_2, hfz30_3, hfz30_4, hfz30_5, hfz30_6⟩ := cf7 BK360))
             have n0_ : Aside0 ((((((((w28.setCell ⟨gb360, 0, none⟩ (.int .i64 ((rd_T42 l0 x30_1).f0))).setCell ⟨gb360, 1, none⟩ (.int .i64 ((rd_T42 l0 x30_1).f1))).setCell ⟨gb360, 2, none⟩ (.int .i64 ((rd_T42 l0 x30_1).f2))).setCell ⟨gb360, 3, none⟩ (.int .i64 ((rd_T42 l0 x30_1).f3))).setCell ⟨gb360, 4, none⟩ (.int .i64 ((rd_T42 l0 x30_1).f4))).setCell ⟨gb360, 5, none⟩ (.slice A359_5 ((rd_T42 l0 x30_1).f5).length c359_5)).setCell ⟨gb360, 6, none⟩ (.slice A359_6 ((rd_T42 l0 x30_1).f6).length c359_6)).heap[gb355]? = some (.cells #[.int .i64 0, .int .i64 0] 24 (0, 0))) := ⟨by (with_reducible repeat (first | refine blk_drewN ?_ _ | refine blk_drew ?_ | refine blk_alloc ?_ _)); refine blk_far ?_ NB355_360.out _; (with_reducible repeat (first | refine blk_drewN ?_ _ | refine blk_drew ?_ | refine blk_alloc ?_ _)); refine blk_far ?_ NB355_360.out _; (with_reducible repeat (first | refine blk_drewN ?_ _ | refine blk_drew ?_ | refine blk_alloc ?_ _)); refine blk_far ?_ NB355_360.out _; (with_reducible repeat (first | refine blk_drewN ?_ _ | refine blk_drew ?_ | refine blk_alloc ?_ _)); refine blk_far ?_ NB355_360.out _; (with_reducible repeat (first | refine blk_drewN ?_ _ | refine blk_drew ?_ | refine blk_alloc ?_ _)); refine blk_far ?_ NB355_360.out _; (with_reducible repeat (first | refine blk_drewN ?_ _ | refine blk_drew ?_ | refine blk_alloc ?_ _)); refine blk_far ?_ NB355_360.out _; (with_reducible repeat (first | refine blk_drewN ?_ _ | refine blk_drew ?_ | refine blk_alloc ?_ _)); refine blk_far ?_ NB355_360.out _; (with_reducible repeat (first | refine blk_drewN ?_ _ | refine blk_drew ?_ | refine blk_alloc ?_ _)); exact BK355.out⟩
             have n1_ : Aside0 ((((((((w28.setCell ⟨gb360, 0, none⟩ (.int .i64 ((rd_T42 l0 x30_1).f0))).setCell ⟨gb360, 1, none⟩ (.int .i64 ((rd_T42 l0 x30_1).f1))).setCell ⟨gb360, 2, none⟩ (.int .i64 ((rd_T42 l0 x30_1).f2))).setCell ⟨gb360, 3, none⟩ (.int .i64 ((rd_T42 l0 x30_1).f3))).setCell ⟨gb360, 4, none⟩ (.int .i64 ((rd_T42 l0 x30_1).f4))).setCell ⟨gb360, 5, none⟩ (.slice A359_5 ((rd_T42 l0 x30_1).f5).length c359_5)).setCell ⟨gb360, 6, none⟩ (.slice A359_6 ((rd_T42 l0 x30_1).f6).length c359_6)).heap[gb360]? = some (.cells #[.int .i64 ((rd_T42 l0 x30_1).f0), .int .i64 ((rd_T42 l0 x30_1).f1), .int .i64 ((rd_T42 l0 x30_1).f2), .int .i64 ((rd_T42 l0 x30_1).f3), .int .i64 ((rd_T42 l0 x30_1).f4), .slice A359_5 ((rd_T42 l0 x30_1).f5).length c359_5, .slice A359_6 ((rd_T42 l0 x30_1).f6).length c359_6] 42 (0, 0))) := ⟨by (with_reducible repeat (first | refine blk_drewN ?_ _ | refine blk_drew ?_ | refine blk_alloc ?_ _)); refine blk_put (cs := #[.int .i64 ((rd_T42 l0 x30_1).f0), .int .i64 ((rd_T42 l0 x30_1).f1), .int .i64 ((rd_T42 l0 x30_1).f2), .int .i64 ((rd_T42 l0 x30_1).f3), .int .i64 ((rd_T42 l0 x30_1).f4), .slice A359_5 ((rd_T42 l0 x30_1).f5).length c359_5, .slice none 0 0]) ?_ 6 _ rfl; (with_reducible repeat (first | refine blk_drewN ?_ _ | refine blk_drew ?_ | refine blk_alloc ?_ _)); refine blk_put (cs := #[.int .i64 ((rd_T42 l0 x30_1).f0), .int .i64 ((rd_T42 l0 x30_1).f1), .int .i64 ((rd_T42 l0 x30_1).f2), .int .i64 ((rd_T42 l0 x30_1).f3), .int .i64 ((rd_T42 l0 x30_1).f4), .slice none 0 0, .slice none 0 0]) ?_ 5 _ rfl; (with_reducible repeat (first | refine blk_drewN ?_ _ | refine blk_drew ?_ | refine blk_alloc ?_ _)); refine blk_put (cs := #[.int .i64 ((rd_T42 l0 x30_1).f0), .int .i64 ((rd_T42 l0 x30_1).f1), .int .i64 ((rd_T42 l0 x30_1).f2), .int .i64 ((rd_T42 l0 x30_1).f3), .int .i64 0, .slice none 0 0, .slice none 0 0]) ?_ 4 _ rfl; (with_reducible repeat (first | refine blk_drewN ?_ _ | refine blk_drew ?_ | refine blk_alloc ?_ _)); refine blk_put (cs := #[.int .i64 ((rd_T42 l0 x30_1).f0), .int .i64 ((rd_T42 l0 x30_1).f1), .int .i64 ((rd_T42 l0 x30_1).f2), .int .i64 0, .int .i64 0, .slice none 0 0, .slice none 0 0]) ?_ 3 _ rfl; (with_reducible repeat (first | refine blk_drewN ?_ _ | refine blk_drew ?_ | refine blk_alloc ?_ _)); refine blk_put (cs := #[.int .i64 ((rd_T42 l0 x30_1).f0), .int .i64 ((rd_T42 l0 x30_1).f1), .int .i64 0, .int .i64 0, .int .i64 0, .slice none 0 0, .slice none 0 0]) ?_ 2 _ rfl; (with_reducible repeat (first | refine blk_drewN ?_ _ | refine blk_drew ?_ | refine blk_alloc ?_ _)); refine blk_put (cs := #[.int .i64 ((rd_T42 l0 x30_1).f0), .int .i64 0, .int .i64 0, .int .i64 0, .int .i64 0, .slice none 0 0, .slice none 0 0]) ?_ 1 _ rfl; (with_reducible repeat (first | refine blk_drewN ?_ _ | refine blk_drew ?_ | refine blk_alloc ?_ _)); refine blk_put (cs := #[.int .i64 0, .int .i64 0, .int .i64 0, .int .i64 0, .int .i64 0, .slice none 0 0, .slice none 0 0]) ?_ 0 _ rfl; (with_reducible repeat (first | refine blk_drewN ?_ _ | refine blk_drew ?_ | refine blk_alloc ?_ _)); exact BK360.out⟩
             have n2_ : Aside0 (Below w.heap.size w (((((((w28.setCell ⟨gb360, 0, none⟩ (.int .i64 ((rd_T42 l0 x30_1).f0))).setCell ⟨gb360, 1, none⟩ (.int .i64 ((rd_T42 l0 x30_1).f1))).setCell ⟨gb360, 2, none⟩ (.int .i64 ((rd_T42 l0 x30_1).f2))).setCell ⟨gb360, 3, none⟩ (.int .i64 ((rd_T42 l0 x30_1).f3))).setCell ⟨gb360, 4, none⟩ (.int .i64 ((rd_T42 l0 x30_1).f4))).setCell ⟨gb360, 5, none⟩ (.slice A359_5 ((rd_T42 l0 x30_1).f5).length c359_5)).setCell ⟨gb360, 6, none⟩ (.slice A359_6 ((rd_T42 l0 x30_1).f6).length c359_6))) := ⟨bs HB (by simp [ag, GE355.out, GE360.out])⟩
             (try clear BK355)
             (try clear BK360)
             (try clear HB)
             generalize (((((((w28.setCell ⟨gb360, 0, none⟩ (.int .i64 ((rd_T42 l0 x30_1).f0))).setCell ⟨gb360, 1, none⟩ (.int .i64 ((rd_T42 l0 x30_1).f1))).setCell ⟨gb360, 2, none⟩ (.int .i64 ((rd_T42 l0 x30_1).f2))).setCell ⟨gb360, 3, none⟩ (.int .i64 ((rd_T42 l0 x30_1).f3))).setCell ⟨gb360, 4, none⟩ (.int .i64 ((rd_T42 l0 x30_1).f4))).setCell ⟨gb360, 5, none⟩ (.slice A359_5 ((rd_T42 l0 x30_1).f5).length c359_5)).setCell ⟨gb360, 6, none⟩ (.slice A359_6 ((rd_T42 l0 x30_1).f6).length c359_6)) = w31 at n0_ n1_ n2_ ⊢
             have BK355 := n0_
             have BK360 := n1_
             have HB := n2_
             clear n0_ n1_ n2_
             have n0_ := Aside0.mk (blk_drew BK355.out)
             have n1_ := Aside0.mk (blk_drew BK360.out)
             have n2_ := Aside0.mk (below_drew1 HB.out)
             clear BK355
             clear BK360
             clear HB
             have BK355 := n0_
             have BK360 := n1_
             have HB := n2_
             clear n0_ n1_ n2_
             have p361 : 0 ≤ (x8_1 : Int) := of_decide_eq_true (by assumption)
             have q361 : x8_1 < (l0.length : Int) := of_decide_eq_true (by assumption)
             obtain ⟨ad361, A361_5, c361_5, A361_6, c361_6, e361, hx361_0, hx361_1, hx361_2, hx361_3, hx361_4, hx361_5, hx361_6, hl361_5, hi361_5, hl361_6, hi361_6⟩ := at_T42 HR0.out x8_1 p361 q361
             have hw361_6 := hx361_6
             have hw361_5 := hx361_5
             have hw361_4 := hx361_4
             have hw361_3 := hx361_3
             have hw361_2 := hx361_2
             have hw361_1 := hx361_1
             have hw361_0 := hx361_0
             obtain rfl : ad359 = ad361 := (by injection e361)
             obtain ⟨hx361_0, hx361_1, hx361_2, hx361_3, hx361_4, hx361_5, hx361_6⟩ := cb7 HB.out hx361_0 hx361_1 hx361_2 hx361_3 hx361_4 hx361_5 hx361_6
             have HR361_5 := Aside0.mk hi361_5
             have HC361_5 := Aside0.mk hl361_5
             clear hi361_5 hl361_5
             have HR361_6 := Aside0.mk hi361_6
             have HC361_6 := Aside0.mk hl361_6
             clear hi361_6 hl361_6
             replace p361 := eq_true p361
             replace q361 := eq_true q361
             refine start_ (n := 18) (S := fun w' => w'.cell? ⟨gb360, 0, none⟩ = some (.int .i64 ((rd_T42 l0 x30_1).f0)) ∧ w'.cell? ⟨gb360, 1, none⟩ = some (.int .i64 ((rd_T42 l0 x30_1).f1)) ∧ w'.cell? ⟨gb360, 2, none⟩ = some (.int .i64 ((rd_T42 l0 x30_1).f2)) ∧ w'.cell? ⟨gb360, 3, none⟩ = some (.int .i64 ((rd_T42 l0 x30_1).f3)) ∧ w'.cell? ⟨gb360, 4, none⟩ = some (.int .i64 ((rd_T42 l0 x30_1).f4)) ∧ w'.cell? ⟨gb360, 5, none⟩ = some (.slice A359_5 ((rd_T42 l0 x30_1).f5).length c359_5) ∧ w'.cell? ⟨gb360, 6, none⟩ = some (.slice A359_6 ((rd_T42 l0 x30_1).f6).length c359_6) ∧ w'.cell? (ad359.add ((x8_1).toNat * 7)) = some (.int .i64 ((rd_T42 l0 x8_1).f0)) ∧ w'.cell? ⟨(ad359.add ((x8_1).toNat * 7)).block, (ad359.add ((x8_1).toNat * 7)).off + 1, none⟩ = some (.int .i64 ((rd_T42 l0 x8_1).f1)) ∧ w'.cell? ⟨(ad359.add ((x8_1).toNat * 7)).block, (ad359.add ((x8_1).toNat * 7)).off + 2, none⟩ = some (.int .i64 ((rd_T42 l0 x8_1).f2)) ∧ w'.cell? ⟨(ad359.add ((x8_1).toNat * 7)).block, (ad359.add ((x8_1).toNat * 7)).off + 3, none⟩ = some (.int .i64 ((rd_T42 l0 x8_1).f3)) ∧ w'.cell? ⟨(ad359.add ((x8_1).toNat * 7)).block, (ad359.add ((x8_1).toNat * 7)).off + 4, none⟩ = some (.int .i64 ((rd_T42 l0 x8_1).f4)) ∧ w'.cell? ⟨(ad359.add ((x8_1).toNat * 7)).block, (ad359.add ((x8_1).toNat * 7)).off + 5, none⟩ = some (.slice A361_5 ((rd_T42 l0 x8_1).f5).length c361_5) ∧ w'.cell? ⟨(ad359.add ((x8_1).toNat * 7)).block, (ad359.add ((x8_1).toNat * 7)).off + 6, none⟩ = some (.slice A361_6 ((rd_T42 l0 x8_1).f6).length c361_6)) (ds := []) #[false, false, false, false, false, false, false, false, false, false, false, false, false, false, false, false, false, false] (by kernel_rfl) rfl rfl ⟨(blk_cell BK360.out 0).trans rfl, (blk_cell BK360.out 1).trans rfl, (blk_cell BK360.out 2).trans rfl, (blk_cell BK360.out 3).trans rfl, (blk_cell BK360.out 4).trans rfl, (blk_cell BK360.out 5).trans rfl, (blk_cell BK360.out 6).trans rfl, (pw_cell_below HB.out hw361_0), (pw_cell_below HB.out hw361_1), (pw_cell_below HB.out hw361_2), (pw_cell_below HB.out hw361_3), (pw_cell_below HB.out hw361_4), (pw_cell_below HB.out hw361_5), (pw_cell_below HB.out hw361_6)⟩ (fun hHeld => ?_); refine with_tabW cyl_Dir.tab9 cyl_Dir.bits9 (fun HT_ HW_ => ?_)
             generalize w31.drew = w32 at BK355 BK360 HB HR361_5 HR361_6 hx361_0 hx361_1 hx361_2 hx361_3 hx361_4 hx361_5 hx361_6 hHeld ⊢
             refine pure_ (i := 0) (N := some 35) (v := ?_) (a' := ?_) #[true, false, false, false, false, false, false, false, false, false, false, false, false, false, false, false, false, false] rfl rfl (any_of HT_.out (by kernel_rfl)) (fun _ _ _ h => h) (Or.inl ⟨by rfl, ?_⟩) ?_ ?_
             rotate_left
             ·intro w'
              go_simp
              with_reducible rfl
             rotate_left
             ·simp only [Act.put, List.setIfInBounds_toArray, List.set_cons_zero, List.set_cons_succ, i64_w, i32_w]
              rfl
             refine pure_ (i := 2) (N := some 37) (v := ?_) (a' := ?_) #[true, false, true, false, false, false, false, false, false, false, false, false, false, false, false, false, false, false] rfl rfl (any_of HT_.out (by kernel_rfl)) (fun _ _ _ h => h) (Or.inl ⟨by rfl, ?_⟩) ?_ ?_
             rotate_left
             ·intro w'
              go_simp
              with_reducible rfl
             rotate_left
             ·simp only [Act.put, List.setIfInBounds_toArray, List.set_cons_zero, List.set_cons_succ, i64_w, i32_w]
              rfl
             refine take_ (i := 1) (N := some 36) (v := ?_) (a' := ?_) #[true, true, true, false, false, false, false, false, false, false, false, false, false, false, false, false, false, false] rfl rfl (take_ofW HT_.out HW_.out (by kernel_rfl)) (fun _ _ _ h => h) (Or.inl ⟨by rfl, ?_⟩) hHeld ?_ ?_
             rotate_left
             ·rintro w' ⟨s0, s1, s2, s3, s4, s5, s6, s7, s8, s9, s10, s11, s12, s13⟩
              go_simp
              with_reducible rfl
             rotate_left
             ·simp only [Act.put, List.setIfInBounds_toArray, List.set_cons_zero, List.set_cons_succ, i64_w, i32_w]
              rfl
             refine pure_ (i := 3) (N := some 38) (v := ?_) (a' := ?_) #[true, true, true, true, false, false, false, false, false, false, false, false, false, false, false, false, false, false] rfl rfl (any_of HT_.out (by kernel_rfl)) (fun _ _ _ h => h) (Or.inl ⟨by rfl, ?_⟩) ?_ ?_
             rotate_left
             ·intro w'
              go_simp
              with_reducible rfl
             rotate_left
             ·simp only [Act.put, List.setIfInBounds_toArray, List.set_cons_zero, List.set_cons_succ, i64_w, i32_w]
              rfl
             refine pure_ (i := 4) (N := some 39) (v := ?_) (a' := ?_) #[true, true, true, true, true, false, false, false, false, false, false, false, false, false, false, false, false, false] rfl rfl (any_of HT_.out (by kernel_rfl)) (fun _ _ _ h => h) (Or.inl ⟨by rfl, ?_⟩) ?_ ?_
             rotate_left
             ·intro w'
              go_simp
              with_reducible rfl
             rotate_left
             ·simp only [Act.put, List.setIfInBounds_toArray, List.set_cons_zero, List.set_cons_succ, i64_w, i32_w]
              rfl
             refine pure_ (i := 5) (N := some 40) (v := ?_) (a' := ?_) #[true, true, true, true, true, true, false, false, false, false, false, false, false, false, false, false, false, false] rfl rfl (any_of HT_.out (by kernel_rfl)) (fun _ _ _ h => h) (Or.inl ⟨by rfl, ?_⟩) ?_ ?_
             rotate_left
             ·intro w'
              go_simp
              with_reducible rfl
             rotate_left
             ·simp only [Act.put, List.setIfInBounds_toArray, List.set_cons_zero, List.set_cons_succ, i64_w, i32_w]
              rfl
             refine pure_ (i := 6) (N := some 41) (v := ?_) (a' := ?_) #[true, true, true, true, true, true, true, false, false, false, false, false, false, false, false, false, false, false] rfl rfl (any_of HT_.out (by kernel_rfl)) (fun _ _ _ h => h) (Or.inl ⟨by rfl, ?_⟩) ?_ ?_
             rotate_left
             ·intro w'
              go_simp
              with_reducible rfl
             rotate_left
             ·simp only [Act.put, List.setIfInBounds_toArray, List.set_cons_zero, List.set_cons_succ, i64_w, i32_w]
              rfl
             refine pure_ (i := 7) (N := some 42) (v := ?_) (a' := ?_) #[true, true, true, true, true, true, true, true, false, false, false, false, false, false, false, false, false, false] rfl rfl (any_of HT_.out (by kernel_rfl)) (fun _ _ _ h => h) (Or.inl ⟨by rfl, ?_⟩) ?_ ?_
             rotate_left
             ·intro w'
              go_simp
              with_reducible rfl
             rotate_left
             ·simp only [Act.put, List.setIfInBounds_toArray, List.set_cons_zero, List.set_cons_succ, i64_w, i32_w]
              rfl
             refine pure_ (i := 8) (N := some 43) (v := ?_) (a' := ?_) #[true, true, true, true, true, true, true, true, true, false, false, false, false, false, false, false, false, false] rfl rfl (any_of HT_.out (by kernel_rfl)) (fun _ _ _ h => h) (Or.inl ⟨by rfl, ?_⟩) ?_ ?_
             rotate_left
             ·intro w'
              go_simp
              with_reducible rfl
             rotate_left
             ·simp only [Act.put, List.setIfInBounds_toArray, List.set_cons_zero, List.set_cons_succ, i64_w, i32_w]
              rfl
             refine pure_ (i := 10) (N := some 45) (v := ?_) (a' := ?_) #[true, true, true, true, true, true, true, true, true, false, true, false, false, false, false, false, false, false] rfl rfl (any_of HT_.out (by kernel_rfl)) (fun _ _ _ h => h) (Or.inl ⟨by rfl, ?_⟩) ?_ ?_
             rotate_left
             ·intro w'
              go_simp
              with_reducible rfl
             rotate_left
             ·simp only [Act.put, List.setIfInBounds_toArray, List.set_cons_zero, List.set_cons_succ, i64_w, i32_w]
              rfl
             refine pure_ (i := 11) (N := some 46) (v := ?_) (a' := ?_) #[true, true, true, true, true, true, true, true, true, false, true, true, false, false, false, false, false, false] rfl rfl (any_of HT_.out (by kernel_rfl)) (fun _ _ _ h => h) (Or.inl ⟨by rfl, ?_⟩) ?_ ?_
             rotate_left
             ·intro w'
              go_simp
              with_reducible rfl
             rotate_left
             ·simp only [Act.put, List.setIfInBounds_toArray, List.set_cons_zero, List.set_cons_succ, i64_w, i32_w]
              rfl
             refine pure_ (i := 12) (N := some 47) (v := ?_) (a' := ?_) #[true, true, true, true, true, true, true, true, true, false, true, true, true, false, false, false, false, false] rfl rfl (any_of HT_.out (by kernel_rfl)) (fun _ _ _ h => h) (Or.inl ⟨by rfl, ?_⟩) ?_ ?_
             rotate_left
             ·intro w'
              go_simp
              with_reducible rfl
             rotate_left
             ·simp only [Act.put, List.setIfInBounds_toArray, List.set_cons_zero, List.set_cons_succ, i64_w, i32_w]
              rfl
             refine pure_ (i := 13) (N := some 48) (v := ?_) (a' := ?_) #[true, true, true, true, true, true, true, true, true, false, true, true, true, true, false, false, false, false] rfl rfl (any_of HT_.out (by kernel_rfl)) (fun _ _ _ h => h) (Or.inl ⟨by rfl, ?_⟩) ?_ ?_
             rotate_left
             ·intro w'
              go_simp
              with_reducible rfl
             rotate_left
             ·simp only [Act.put, List.setIfInBounds_toArray, List.set_cons_zero, List.set_cons_succ, i64_w, i32_w]
              rfl
             refine take_ (i := 9) (N := some 44) (v := ?_) (a' := ?_) #[true, true, true, true, true, true, true, true, true, true, true, true, true, true, false, false, false, false] rfl rfl (take_ofW HT_.out HW_.out (by kernel_rfl)) (fun _ _ _ h => h) (Or.inl ⟨by rfl, ?_⟩) hHeld ?_ ?_
             rotate_left
             ·rintro w' ⟨s0, s1, s2, s3, s4, s5, s6, s7, s8, s9, s10, s11, s12, s13⟩
              go_simp
              with_reducible rfl
             rotate_left
             ·simp only [Act.put, List.setIfInBounds_toArray, List.set_cons_zero, List.set_cons_succ, i64_w, i32_w]
              rfl
             refine take_ (i := 14) (N := some 49) (v := ?_) (a' := ?_) #[true, true, true, true, true, true, true, true, true, true, true, true, true, true, true, false, false, false] rfl rfl (take_ofW HT_.out HW_.out (by kernel_rfl)) (fun _ _ _ h => h) (Or.inl ⟨by rfl, ?_⟩) hHeld ?_ ?_
             rotate_left
             ·rintro w' ⟨s0, s1, s2, s3, s4, s5, s6, s7, s8, s9, s10, s11, s12, s13⟩
              go_simp
              with_reducible rfl
             rotate_left
             ·simp only [Act.put, List.setIfInBounds_toArray, List.set_cons_zero, List.set_cons_succ, i64_w, i32_w]
              rfl
             refine pure_ (i := 15) (N := some 50) (v := ?_) (a' := ?_) #[true, true, true, true, true, true, true, true, true, true, true, true, true, true, true, true, false, false] rfl rfl (any_of HT_.out (by kernel_rfl)) (fun _ _ _ h => h) (Or.inl ⟨by rfl, ?_⟩) ?_ ?_
             rotate_left
             ·intro w'
              go_simp
              with_reducible rfl
             rotate_left
             ·simp only [Act.put, List.setIfInBounds_toArray, List.set_cons_zero, List.set_cons_succ, i64_w, i32_w]
              rfl
             refine pure_ (i := 16) (N := some 51) (v := ?_) (a' := ?_) #[true, true, true, true, true, true, true, true, true, true, true, true, true, true, true, true, true, false] rfl rfl (any_of HT_.out (by kernel_rfl)) (fun _ _ _ h => h) (Or.inl ⟨by rfl, ?_⟩) ?_ ?_
             rotate_left
             ·intro w'
              go_simp
              with_reducible rfl
             rotate_left
             ·simp only [Act.put, List.setIfInBounds_toArray, List.set_cons_zero, List.set_cons_succ, i64_w, i32_w]
              rfl
             refine pure_ (i := 17) (N := some 52) (v := ?_) (a' := ?_) #[true, true, true, true, true, true, true, true, true, true, true, true, true, true, true, true, true, true] rfl rfl (any_of HT_.out (by kernel_rfl)) (fun _ _ _ h => h) (Or.inl ⟨by rfl, ?_⟩) ?_ ?_
             rotate_left
             ·intro w'
              go_simp
              with_reducible rfl
             rotate_left
             ·simp only [Act.put, List.setIfInBounds_toArray, List.set_cons_zero, List.set_cons_succ, i64_w, i32_w]
              rfl
             refine done_ (done_of HT_.out (by kernel_rfl)) ?_
             try go_wp2
             go_roundg k1
             case measure => have := HK1.out; omega
             case rel => exact ⟨(x8_1), (wrap64 (x30_1 + 1)), (by first | rfl | (simp; done) | (simp [*]; done)), (by first | rfl | (simp; done) | (simp [*]; done)), H', ⟨by have := HK1.out; omega⟩, ⟨bk BK355⟩, ⟨bs HB (by simp [ag, GE355.out, GE360.out])⟩⟩
           ·rw [if_neg c21] at H
            exact absurd H (by simp)
          ·rw [if_neg c20] at H
           exact absurd H (by simp)
        ·rw [if_neg c13] at H
         have c13b0 : decide (ji6 ≤ ((rd_T42 l0 x30_1).f3)) = false := decide_eq_false c13
         clear c13
         have H' := Aside0.mk H
         clear H
         have p359 : 0 ≤ (x30_1 : Int) := of_decide_eq_true (by assumption)
         have q359 : x30_1 < (l0.length : Int) := of_decide_eq_true (by assumption)
         obtain ⟨ad359, A359_5, c359_5, A359_6, c359_6, e359, hx359_0, hx359_1, hx359_2, hx359_3, hx359_4, hx359_5, hx359_6, hl359_5, hi359_5, hl359_6, hi359_6⟩ := at_T42 HR0.out x30_1 p359 q359
         cases e359
         obtain ⟨hx359_0, hx359_1, hx359_2, hx359_3, hx359_4, hx359_5, hx359_6⟩ := cb7 HB.out hx359_0 hx359_1 hx359_2 hx359_3 hx359_4 hx359_5 hx359_6
         have HR359_5 := Aside0.mk hi359_5
         have HC359_5 := Aside0.mk hl359_5
         clear hi359_5 hl359_5
         have HR359_6 := Aside0.mk hi359_6
         have HC359_6 := Aside0.mk hl359_6
         clear hi359_6 hl359_6
         replace p359 := eq_true p359
         replace q359 := eq_true q359
         try go_wp2_with (first | ((with_reducible refine gate_dst (N := 10) rfl ?_); refine box_event rfl (N := 10) rfl (cs := #[.int .i64 0, .int .i64 0, .int .i64 0, .int .i64 0, .int .i64 0, .slice none 0 0, .slice none 0 0]) (t := 42) (by first | (go_simp; done) | (go_simp; rfl)) ?_; intro gb360 hg w33 hbox hb; have BK360 := Aside0.mk (hbox); have GW360 := gl HB hg (by simp [ag, GE355.out]); have GE360 := gl HB hg (by simp [ag, GE355.out]); replace HB := Aside0.mk (below_step (bs HB (by simp [ag, GE355.out])) hb); have NB355_360 := nl BK355 hg; have NB360_355 := nt BK355 hg; replace BK355 := Aside0.mk (bb BK355 hb); clear hb hbox hg; have hnb34 := NB360_355.out; have hnc34 := NB355_360.out; obtain ⟨hcz35_0, hcz35_1, hcz35_2, hcz35_3, hcz35_4, hcz35_5, hcz35_6, hfz35_0, hfz35_1, hfz35_2, hfz35_3, hfz35_4, hfz35_5, hfz35_6⟩ := cf7 BK360))
         have n0_ : Aside0 ((((((((w33.setCell ⟨gb360, 0, none⟩ (.int .i64 ((rd_T42 l0 x30_1).f0))).setCell ⟨gb360, 1, none⟩ (.int .i64 ((rd_T42 l0 x30_1).f1))).setCell ⟨gb360, 2, none⟩ (.int .i64 ((rd_T42 l0 x30_1).f2))).setCell ⟨gb360, 3, none⟩ (.int .i64 ((rd_T42 l0 x30_1).f3))).setCell ⟨gb360, 4, none⟩ (.int .i64 ((rd_T42 l0 x30_1).f4))).setCell ⟨gb360, 5, none⟩ (.slice A359_5 ((rd_T42 l0 x30_1).f5).length c359_5)).setCell ⟨gb360, 6, none⟩ (.slice A359_6 ((rd_T42 l0 x30_1).f6).length c359_6)).heap[gb355]? = some (.cells #[.int .i64 0, .int .i64 0] 24 (0, 0))) := ⟨by (with_reducible repeat (first | refine blk_drewN ?_ _ | refine blk_drew ?_ | refine blk_alloc ?_ _)); refine blk_far ?_ NB355_360.out _; (with_reducible repeat (first | refine blk_drewN ?_ _ | refine blk_drew ?_ | refine blk_alloc ?_ _)); refine blk_far ?_ NB355_360.out _; (with_reducible repeat (first | refine blk_drewN ?_ _ | refine blk_drew ?_ | refine blk_alloc ?_ _)); refine blk_far ?_ NB355_360.out _; (with_reducible repeat (first | refine blk_drewN ?_ _ | refine blk_drew ?_ | refine blk_alloc ?_ _)); refine blk_far ?_ NB355_360.out _; (with_reducible repeat (first | refine blk_drewN ?_ _ | refine blk_drew ?_ | refine blk_alloc ?_ _)); refine blk_far ?_ NB355_360.out _; (with_reducible repeat (first | refine blk_drewN ?_ _ | refine blk_drew ?_ | refine blk_alloc ?_ _)); refine blk_far ?_ NB355_360.out _; (with_reducible repeat (first | refine blk_drewN ?_ _ | refine blk_drew ?_ | refine blk_alloc ?_ _)); refine blk_far ?_ NB355_360.out _; (with_reducible repeat (first | refine blk_drewN ?_ _ | refine blk_drew ?_ | refine blk_alloc ?_ _)); exact BK355.out⟩
         have n1_ : Aside0 ((((((((w33.setCell ⟨gb360, 0, none⟩ (.int .i64 ((rd_T42 l0 x30_1).f0))).setCell ⟨gb360, 1, none⟩ (.int .i64 ((rd_T42 l0 x30_1).f1))).setCell ⟨gb360, 2, none⟩ (.int .i64 ((rd_T42 l0 x30_1).f2))).setCell ⟨gb360, 3, none⟩ (.int .i64 ((rd_T42 l0 x30_1).f3))).setCell ⟨gb360, 4, none⟩ (.int .i64 ((rd_T42 l0 x30_1).f4))).setCell ⟨gb360, 5, none⟩ (.slice A359_5 ((rd_T42 l0 x30_1).f5).length c359_5)).setCell ⟨gb360, 6, none⟩ (.slice A359_6 ((rd_T42 l0 x30_1).f6).length c359_6)).heap[gb360]? = some (.cells #[.int .i64 ((rd_T42 l0 x30_1).f0), .int .i64 ((rd_T42 l0 x30_1).f1), .int .i64 ((rd_T42 l0 x30_1).f2), .int .i64 ((rd_T42 l0 x30_1).f3), .int .i64 ((rd_T42 l0 x30_1).f4), .slice A359_5 ((rd_T42 l0 x30_1).f5).length c359_5, .slice A359_6 ((rd_T42 l0 x30_1).f6).length c359_6] 42 (0, 0))) := ⟨by (with_reducible repeat (first | refine blk_drewN ?_ _ | refine blk_drew ?_ | refine blk_alloc ?_ _)); refine blk_put (cs := #[.int .i64 ((rd_T42 l0 x30_1).f0), .int .i64 ((rd_T42 l0 x30_1).f1), .int .i64 ((rd_T42 l0 x30_1).f2), .int .i64 ((rd_T42 l0 x30_1).f3), .int .i64 ((rd_T42 l0 x30_1).f4), .slice A359_5 ((rd_T42 l0 x30_1).f5).length c359_5, .slice none 0 0]) ?_ 6 _ rfl; (with_reducible repeat (first | refine blk_drewN ?_ _ | refine blk_drew ?_ | refine blk_alloc ?_ _)); refine blk_put (cs := #[.int .i64 ((rd_T42 l0 x30_1).f0), .int .i64 ((rd_T42 l0 x30_1).f1), .int .i64 ((rd_T42 l0 x30_1).f2), .int .i64 ((rd_T42 l0 x30_1).f3), .int .i64 ((rd_T42 l0 x30_1).f4), .slice none 0 0, .slice none 0 0]) ?_ 5 _ rfl; (with_reducible repeat (first | refine blk_drewN ?_ _ | refine blk_drew ?_ | refine blk_alloc ?_ _)); refine blk_put (cs := #[.int .i64 ((rd_T42 l0 x30_1).f0), .int .i64 ((rd_T42 l0 x30_1).f1), .int .i64 ((rd_T42 l0 x30_1).f2), .int .i64 ((rd_T42 l0 x30_1).f3), .int .i64 0, .slice none 0 0, .slice none 0 0]) ?_ 4 _ rfl; (with_reducible repeat (first | refine blk_drewN ?_ _ | refine blk_drew ?_ | refine blk_alloc ?_ _)); refine blk_put (cs := #[.int .i64 ((rd_T42 l0 x30_1).f0), .int .i64 ((rd_T42 l0 x30_1).f1), .int .i64 ((rd_T42 l0 x30_1).f2), .int .i64 0, .int .i64 0, .slice none 0 0, .slice none 0 0]) ?_ 3 _ rfl; (with_reducible repeat (first | refine blk_drewN ?_ _ | refine blk_drew ?_ | refine blk_alloc ?_ _)); refine blk_put (cs := #[.int .i64 ((rd_T42 l0 x30_1).f0), .int .i64 ((rd_T42 l0 x30_1).f1), .int .i64 0, .int .i64 0, .int .i64 0, .slice none 0 0, .slice none 0 0]) ?_ 2 _ rfl; (with_reducible repeat (first | refine blk_drewN ?_ _ | refine blk_drew ?_ | refine blk_alloc ?_ _)); refine blk_put (cs := #[.int .i64 ((rd_T42 l0 x30_1).f0), .int .i64 0, .int .i64 0, .int .i64 0, .int .i64 0, .slice none 0 0, .slice none 0 0]) ?_ 1 _ rfl; (with_reducible repeat (first | refine blk_drewN ?_ _ | refine blk_drew ?_ | refine blk_alloc ?_ _)); refine blk_put (cs := #[.int .i64 0, .int .i64 0, .int .i64 0, .int .i64 0, .int .i64 0, .slice none 0 0, .slice none 0 0]) ?_ 0 _ rfl; (with_reducible repeat (first | refine blk_drewN ?_ _ | refine blk_drew ?_ | refine blk_alloc ?_ _)); exact BK360.out⟩
         have n2_ : Aside0 (Below w.heap.size w (((((((w33.setCell ⟨gb360, 0, none⟩ (.int .i64 ((rd_T42 l0 x30_1).f0))).setCell ⟨gb360, 1, none⟩ (.int .i64 ((rd_T42 l0 x30_1).f1))).setCell ⟨gb360, 2, none⟩ (.int .i64 ((rd_T42 l0 x30_1).f2))).setCell ⟨gb360, 3, none⟩ (.int .i64 ((rd_T42 l0 x30_1).f3))).setCell ⟨gb360, 4, none⟩ (.int .i64 ((rd_T42 l0 x30_1).f4))).setCell ⟨gb360, 5, none⟩ (.slice A359_5 ((rd_T42 l0 x30_1).f5).length c359_5)).setCell ⟨gb360, 6, none⟩ (.slice A359_6 ((rd_T42 l0 x30_1).f6).length c359_6))) := ⟨bs HB (by simp [ag, GE355.out, GE360.out])⟩
         (try clear BK355)
         (try clear BK360)
         (try clear HB)
         generalize (((((((w33.setCell ⟨gb360, 0, none⟩ (.int .i64 ((rd_T42 l0 x30_1).f0))).setCell ⟨gb360, 1, none⟩ (.int .i64 ((rd_T42 l0 x30_1).f1))).setCell ⟨gb360, 2, none⟩ (.int .i64 ((rd_T42 l0 x30_1).f2))).setCell ⟨gb360, 3, none⟩ (.int .i64 ((rd_T42 l0 x30_1).f3))).setCell ⟨gb360, 4, none⟩ (.int .i64 ((rd_T42 l0 x30_1).f4))).setCell ⟨gb360, 5, none⟩ (.slice A359_5 ((rd_T42 l0 x30_1).f5).length c359_5)).setCell ⟨gb360, 6, none⟩ (.slice A359_6 ((rd_T42 l0 x30_1).f6).length c359_6)) = w36 at n0_ n1_ n2_ ⊢
         have BK355 := n0_
         have BK360 := n1_
         have HB := n2_
         clear n0_ n1_ n2_
         have n0_ := Aside0.mk (blk_drew BK355.out)
         have n1_ := Aside0.mk (blk_drew BK360.out)
         have n2_ := Aside0.mk (below_drew1 HB.out)
         clear BK355
         clear BK360
         clear HB
         have BK355 := n0_
         have BK360 := n1_
         have HB := n2_
         clear n0_ n1_ n2_
         refine start_ (n := 18) (S := fun w' => w'.cell? ⟨gb360, 0, none⟩ = some (.int .i64 ((rd_T42 l0 x30_1).f0)) ∧ w'.cell? ⟨gb360, 1, none⟩ = some (.int .i64 ((rd_T42 l0 x30_1).f1)) ∧ w'.cell? ⟨gb360, 2, none⟩ = some (.int .i64 ((rd_T42 l0 x30_1).f2)) ∧ w'.cell? ⟨gb360, 3, none⟩ = some (.int .i64 ((rd_T42 l0 x30_1).f3)) ∧ w'.cell? ⟨gb360, 4, none⟩ = some (.int .i64 ((rd_T42 l0 x30_1).f4)) ∧ w'.cell? ⟨gb360, 5, none⟩ = some (.slice A359_5 ((rd_T42 l0 x30_1).f5).length c359_5) ∧ w'.cell? ⟨gb360, 6, none⟩ = some (.slice A359_6 ((rd_T42 l0 x30_1).f6).length c359_6)) (ds := []) #[false, false, false, false, false, false, false, false, false, false, false, false, false, false, false, false, false, false] (by kernel_rfl) rfl rfl ⟨(blk_cell BK360.out 0).trans rfl, (blk_cell BK360.out 1).trans rfl, (blk_cell BK360.out 2).trans rfl, (blk_cell BK360.out 3).trans rfl, (blk_cell BK360.out 4).trans rfl, (blk_cell BK360.out 5).trans rfl, (blk_cell BK360.out 6).trans rfl⟩ (fun hHeld => ?_); refine with_tabW cyl_Dir.tab9 cyl_Dir.bits9 (fun HT_ HW_ => ?_)
         generalize w36.drew = w37 at BK355 BK360 HB hHeld ⊢
         refine pure_ (i := 0) (N := some 35) (v := ?_) (a' := ?_) #[true, false, false, false, false, false, false, false, false, false, false, false, false, false, false, false, false, false] rfl rfl (any_of HT_.out (by kernel_rfl)) (fun _ _ _ h => h) (Or.inl ⟨by rfl, ?_⟩) ?_ ?_
         rotate_left
         ·intro w'
          go_simp
          with_reducible rfl
         rotate_left
         ·simp only [Act.put, List.setIfInBounds_toArray, List.set_cons_zero, List.set_cons_succ, i64_w, i32_w]
          rfl
         refine pure_ (i := 2) (N := some 37) (v := ?_) (a' := ?_) #[true, false, true, false, false, false, false, false, false, false, false, false, false, false, false, false, false, false] rfl rfl (any_of HT_.out (by kernel_rfl)) (fun _ _ _ h => h) (Or.inl ⟨by rfl, ?_⟩) ?_ ?_
         rotate_left
         ·intro w'
          go_simp
          with_reducible rfl
         rotate_left
         ·simp only [Act.put, List.setIfInBounds_toArray, List.set_cons_zero, List.set_cons_succ, i64_w, i32_w]
          rfl
         refine take_ (i := 1) (N := some 36) (v := ?_) (a' := ?_) #[true, true, true, false, false, false, false, false, false, false, false, false, false, false, false, false, false, false] rfl rfl (take_ofW HT_.out HW_.out (by kernel_rfl)) (fun _ _ _ h => h) (Or.inl ⟨by rfl, ?_⟩) hHeld ?_ ?_
         rotate_left
         ·rintro w' ⟨s0, s1, s2, s3, s4, s5, s6⟩
          go_simp
          with_reducible rfl
         rotate_left
         ·simp only [Act.put, List.setIfInBounds_toArray, List.set_cons_zero, List.set_cons_succ, i64_w, i32_w]
          rfl
         refine pure_ (i := 3) (N := some 38) (v := ?_) (a' := ?_) #[true, true, true, true, false, false, false, false, false, false, false, false, false, false, false, false, false, false] rfl rfl (any_of HT_.out (by kernel_rfl)) (fun _ _ _ h => h) (Or.inl ⟨by rfl, ?_⟩) ?_ ?_
         rotate_left
         ·intro w'
          go_simp
          with_reducible rfl
         rotate_left
         ·simp only [Act.put, List.setIfInBounds_toArray, List.set_cons_zero, List.set_cons_succ, i64_w, i32_w]
          rfl
         refine pure_ (i := 4) (N := some 39) (v := ?_) (a' := ?_) #[true, true, true, true, true, false, false, false, false, false, false, false, false, false, false, false, false, false] rfl rfl (any_of HT_.out (by kernel_rfl)) (fun _ _ _ h => h) (Or.inl ⟨by rfl, ?_⟩) ?_ ?_
         rotate_left
         ·intro w'
          go_simp
          with_reducible rfl
         rotate_left
         ·simp only [Act.put, List.setIfInBounds_toArray, List.set_cons_zero, List.set_cons_succ, i64_w, i32_w]
          rfl
         refine pure_ (i := 5) (N := some 40) (v := undef) (a' := ?_) #[true, true, true, true, true, true, false, false, false, false, false, false, false, false, false, false, false, false] rfl rfl (any_of HT_.out (by kernel_rfl)) (fun _ _ _ h => h) (Or.inr ⟨by rfl, rfl⟩) ?_ ?_
         rotate_left
         ·simp only [Act.put, List.setIfInBounds_toArray, List.set_cons_zero, List.set_cons_succ, i64_w, i32_w]
          rfl
         refine pure_ (i := 6) (N := some 41) (v := undef) (a' := ?_) #[true, true, true, true, true, true, true, false, false, false, false, false, false, false, false, false, false, false] rfl rfl (any_of HT_.out (by kernel_rfl)) (fun _ _ _ h => h) (Or.inr ⟨by rfl, rfl⟩) ?_ ?_
         rotate_left
         ·simp only [Act.put, List.setIfInBounds_toArray, List.set_cons_zero, List.set_cons_succ, i64_w, i32_w]
          rfl
         refine pure_ (i := 7) (N := some 42) (v := undef) (a' := ?_) #[true, true, true, true, true, true, true, true, false, false, false, false, false, false, false, false, false, false] rfl rfl (any_of HT_.out (by kernel_rfl)) (fun _ _ _ h => h) (Or.inr ⟨by rfl, rfl⟩) ?_ ?_
         rotate_left
         ·simp only [Act.put, List.setIfInBounds_toArray, List.set_cons_zero, List.set_cons_succ, i64_w, i32_w]
          rfl
         refine pure_ (i := 8) (N := some 43) (v := undef) (a' := ?_) #[true, true, true, true, true, true, true, true, true, false, false, false, false, false, false, false, false, false] rfl rfl (any_of HT_.out (by kernel_rfl)) (fun _ _ _ h => h) (Or.inr ⟨by rfl, rfl⟩) ?_ ?_
         rotate_left
         ·simp only [Act.put, List.setIfInBounds_toArray, List.set_cons_zero, List.set_cons_succ, i64_w, i32_w]
          rfl
         refine pure_ (i := 9) (N := some 44) (v := undef) (a' := ?_) #[true, true, true, true, true, true, true, true, true, true, false, false, false, false, false, false, false, false] rfl rfl (any_of HT_.out (by kernel_rfl)) (fun _ _ _ h => h) (Or.inr ⟨by rfl, rfl⟩) ?_ ?_
         rotate_left
         ·simp only [Act.put, List.setIfInBounds_toArray, List.set_cons_zero, List.set_cons_succ, i64_w, i32_w]
          rfl
         refine pure_ (i := 10) (N := some 45) (v := undef) (a' := ?_) #[true, true, true, true, true, true, true, true, true, true, true, false, false, false, false, false, false, false] rfl rfl (any_of HT_.out (by kernel_rfl)) (fun _ _ _ h => h) (Or.inr ⟨by rfl, rfl⟩) ?_ ?_
         rotate_left
         ·simp only [Act.put, List.setIfInBounds_toArray, List.set_cons_zero, List.set_cons_succ, i64_w, i32_w]
          rfl
         refine pure_ (i := 11) (N := some 46) (v := undef) (a' := ?_) #[true, true, true, true, true, true, true, true, true, true, true, true, false, false, false, false, false, false] rfl rfl (any_of HT_.out (by kernel_rfl)) (fun _ _ _ h => h) (Or.inr ⟨by rfl, rfl⟩) ?_ ?_
         rotate_left
         ·simp only [Act.put, List.setIfInBounds_toArray, List.set_cons_zero, List.set_cons_succ, i64_w, i32_w]
          rfl
         refine pure_ (i := 12) (N := some 47) (v := undef) (a' := ?_) #[true, true, true, true, true, true, true, true, true, true, true, true, true, false, false, false, false, false] rfl rfl (any_of HT_.out (by kernel_rfl)) (fun _ _ _ h => h) (Or.inr ⟨by rfl, rfl⟩) ?_ ?_
         rotate_left
         ·simp only [Act.put, List.setIfInBounds_toArray, List.set_cons_zero, List.set_cons_succ, i64_w, i32_w]
          rfl
         refine pure_ (i := 13) (N := some 48) (v := undef) (a' := ?_) #[true, true, true, true, true, true, true, true, true, true, true, true, true, true, false, false, false, false] rfl rfl (any_of HT_.out (by kernel_rfl)) (fun _ _ _ h => h) (Or.inr ⟨by rfl, rfl⟩) ?_ ?_
         rotate_left
         ·simp only [Act.put, List.setIfInBounds_toArray, List.set_cons_zero, List.set_cons_succ, i64_w, i32_w]
          rfl
         refine pure_ (i := 14) (N := some 49) (v := undef) (a' := ?_) #[true, true, true, true, true, true, true, true, true, true, true, true, true, true, true, false, false, false] rfl rfl (any_of HT_.out (by kernel_rfl)) (fun _ _ _ h => h) (Or.inr ⟨by rfl, rfl⟩) ?_ ?_
         rotate_left
         ·simp only [Act.put, List.setIfInBounds_toArray, List.set_cons_zero, List.set_cons_succ, i64_w, i32_w]
          rfl
         refine pure_ (i := 15) (N := some 50) (v := undef) (a' := ?_) #[true, true, true, true, true, true, true, true, true, true, true, true, true, true, true, true, false, false] rfl rfl (any_of HT_.out (by kernel_rfl)) (fun _ _ _ h => h) (Or.inr ⟨by rfl, rfl⟩) ?_ ?_
         rotate_left
         ·simp only [Act.put, List.setIfInBounds_toArray, List.set_cons_zero, List.set_cons_succ, i64_w, i32_w]
          rfl
         refine pure_ (i := 16) (N := some 51) (v := undef) (a' := ?_) #[true, true, true, true, true, true, true, true, true, true, true, true, true, true, true, true, true, false] rfl rfl (any_of HT_.out (by kernel_rfl)) (fun _ _ _ h => h) (Or.inr ⟨by rfl, rfl⟩) ?_ ?_
         rotate_left
         ·simp only [Act.put, List.setIfInBounds_toArray, List.set_cons_zero, List.set_cons_succ, i64_w, i32_w]
          rfl
         refine pure_ (i := 17) (N := some 52) (v := ?_) (a' := ?_) #[true, true, true, true, true, true, true, true, true, true, true, true, true, true, true, true, true, true] rfl rfl (any_of HT_.out (by kernel_rfl)) (fun _ _ _ h => h) (Or.inl ⟨by rfl, ?_⟩) ?_ ?_
         rotate_left
         ·intro w'
          go_simp
          with_reducible rfl
         rotate_left
         ·simp only [Act.put, List.setIfInBounds_toArray, List.set_cons_zero, List.set_cons_succ, i64_w, i32_w]
          rfl
         refine done_ (done_of HT_.out (by kernel_rfl)) ?_
         try go_wp2
         go_roundg k1
         case measure => have := HK1.out; omega
         case rel => exact ⟨(x8_1), (wrap64 (x30_1 + 1)), (by first | rfl | (simp; done) | (simp [*]; done)), (by first | rfl | (simp; done) | (simp [*]; done)), H', ⟨by have := HK1.out; omega⟩, ⟨bk BK355⟩, ⟨bs HB (by simp [ag, GE355.out, GE360.out])⟩⟩
       ·rw [if_neg c12] at H
        exact absurd H (by simp)
      ·rw [if_neg c11] at H
       exact absurd H (by simp)
     ·rw [if_neg c10] at H
      have c10b0 : decide (x30_1 < (l0.length : Int)) = false := decide_eq_false c10
      clear c10
      by_cases c38 : x8_1 < 0
      ·rw [if_pos c38] at H
       have c38b0 : decide (x8_1 < 0) = true := decide_eq_true c38
       clear c38
       simp only [Option.some.injEq, Prod.mk.injEq] at H
       obtain ⟨rfl, rfl, rfl, rfl⟩ := H
       obtain ⟨hcz39_0, hcz39_1, hfz39_0, hfz39_1⟩ := cf2 BK355
       go_wp2
       refine bodyPost_ret (results_list (rs := [.tmp 2, .cell 3 24, .tmp 4]) rfl (by simp) (.tmp (.cell gb355 24 #[.int .i64 0, .int .i64 0] (0, 0) _ rfl (by (with_reducible repeat (first | refine blk_drewN ?_ _ | refine blk_drew ?_ | refine blk_alloc ?_ _)); refine blk_put (cs := #[.int .i64 0, .int .i64 0]) ?_ 1 _ rfl; (with_reducible repeat (first | refine blk_drewN ?_ _ | refine blk_drew ?_ | refine blk_alloc ?_ _)); refine blk_put (cs := #[.int .i64 0, .int .i64 0]) ?_ 0 _ rfl; (with_reducible repeat (first | refine blk_drewN ?_ _ | refine blk_drew ?_ | refine blk_alloc ?_ _)); exact BK355.out) Try.underlying24 rfl (by kernel_rfl) (.tmp .nil)))) rfl ?_
       exact ⟨_, by first | rfl | (simp [errW_none, errW_some] <;> rfl) | (simp only [← hji6]; first | rfl | (simp [errW_none, errW_some] <;> rfl)) | (simp [*, errW_none, errW_some] <;> rfl), by first | exact Kd.S_nil _ _ _ _ _ | exact Kd.N_nil _ _ _ _ _ | exact Kd.V_nil _ _ _ _ _ | exact Kd.Q_nil _ _ _ _ _ | exact Kd.R_nil _ _ _ _ _, bs HB (by simp [ag, GE355.out])⟩
      ·rw [if_neg c38] at H
       have c38b0 : decide (x8_1 < 0) = false := decide_eq_false c38
       clear c38
       replace H := Option.bind_eq_some_iff.mp H
       obtain ⟨⟨t362, t365, t366, t367⟩, A400, H⟩ := H
       try dsimp -implicitDefEqProofs -simprocs only at H
       have A40 := Aside0.mk A400
       clear A400
       simp only [Option.some.injEq, Prod.mk.injEq] at H
       obtain ⟨rfl, rfl, rfl, rfl⟩ := H
       try go_wp2_with (first | ((with_reducible refine gate_callee (f := 56) rfl ?_); refine goesL_ (some 61) rfl rfl Try.func56 (by kernel_rfl) rfl #[.slice A0 l0.length c0, .int .i64 x8_1] rfl (by simp only [List.map_toArray, List.map_cons, List.map_nil]; first | done | rfl) ?_; (with_reducible refine (cyl_first.calls _ _ l0 x8_1 t362 t365 t366 t367 _ ?side1 ?side2 A40.out).mono ?_); (case side1 => exact ck (Kd.C_below HR0.out HB.out)); (case side2 => exact HC0.out); rintro e w41 ⟨v363, rfl, ho0, hb⟩; refine ⟨_, rfl, ?_⟩; have hone_v363 := Kd.S_one ho0; have HO364 := Aside0.mk (Kd.S_lower ho0 (below_size (bs HB (by simp [ag, GE355.out])))); replace BK355 := Aside0.mk (bb BK355 hb); replace HB := Aside0.mk (below_step (bs HB (by simp [ag, GE355.out])) hb); clear ho0 hb) | ((with_reducible refine gate_dst (N := 12) rfl ?_); refine box_event rfl (N := 12) rfl (cs := #[.int .i64 0, .int .i64 0]) (t := 24) (by first | (go_simp; done) | (go_simp; rfl)) ?_; intro gb368 hg w42 hbox hb; replace HO364 := Aside0.mk (Kd.S_below (sk HO364) hb); have BK368 := Aside0.mk (hbox); have GW368 := gl HB hg (by simp [ag, GE355.out]); have GE368 := gl HB hg (by simp [ag, GE355.out]); replace HB := Aside0.mk (below_step (bs HB (by simp [ag, GE355.out])) hb); have NB355_368 := nl BK355 hg; have NB368_355 := nt BK355 hg; replace BK355 := Aside0.mk (bb BK355 hb); clear hb hbox hg; have hnb43 := NB368_355.out; have hnc43 := NB355_368.out; obtain ⟨hcz44_0, hcz44_1, hfz44_0, hfz44_1⟩ := cf2 BK368))
       have n0_ : Aside0 (Kd.S k42 42 ((w42.setCell ⟨gb368, 0, none⟩ (.int .i64 t365)).setCell ⟨gb368, 1, none⟩ (.int .i64 t366)) w.heap.size (fun _ => True) v363 t362) := ⟨by (with_reducible repeat (first | apply Kd.S_alloc | apply Kd.S_drewN | apply Kd.S_drew)); exact Kd.S_mono (Kd.S_far (p := ⟨gb368, 1, none⟩) (Kd.S_far (p := ⟨gb368, 0, none⟩) (Kd.S_types HO364.out BK368.out (by decide)) (fun _ hk => hk.2) (.int .i64 t365)) (fun _ hk => hk.2) (.int .i64 t366)) (fun _ hk => trivial)⟩
       have n1_ : Aside0 (((w42.setCell ⟨gb368, 0, none⟩ (.int .i64 t365)).setCell ⟨gb368, 1, none⟩ (.int .i64 t366)).heap[gb355]? = some (.cells #[.int .i64 0, .int .i64 0] 24 (0, 0))) := ⟨by (with_reducible repeat (first | refine blk_drewN ?_ _ | refine blk_drew ?_ | refine blk_alloc ?_ _)); refine blk_far ?_ NB355_368.out _; (with_reducible repeat (first | refine blk_drewN ?_ _ | refine blk_drew ?_ | refine blk_alloc ?_ _)); refine blk_far ?_ NB355_368.out _; (with_reducible repeat (first | refine blk_drewN ?_ _ | refine blk_drew ?_ | refine blk_alloc ?_ _)); exact BK355.out⟩
       have n2_ : Aside0 (((w42.setCell ⟨gb368, 0, none⟩ (.int .i64 t365)).setCell ⟨gb368, 1, none⟩ (.int .i64 t366)).heap[gb368]? = some (.cells #[.int .i64 t365, .int .i64 t366] 24 (0, 0))) := ⟨by (with_reducible repeat (first | refine blk_drewN ?_ _ | refine blk_drew ?_ | refine blk_alloc ?_ _)); refine blk_put (cs := #[.int .i64 t365, .int .i64 0]) ?_ 1 _ rfl; (with_reducible repeat (first | refine blk_drewN ?_ _ | refine blk_drew ?_ | refine blk_alloc ?_ _)); refine blk_put (cs := #[.int .i64 0, .int .i64 0]) ?_ 0 _ rfl; (with_reducible repeat (first | refine blk_drewN ?_ _ | refine blk_drew ?_ | refine blk_alloc ?_ _)); exact BK368.out⟩
       have n3_ : Aside0 (Below w.heap.size w ((w42.setCell ⟨gb368, 0, none⟩ (.int .i64 t365)).setCell ⟨gb368, 1, none⟩ (.int .i64 t366))) := ⟨bs HB (by simp [ag, GE355.out, GE368.out])⟩
       (try clear HO364)
       (try clear BK355)
       (try clear BK368)
       (try clear HB)
       generalize ((w42.setCell ⟨gb368, 0, none⟩ (.int .i64 t365)).setCell ⟨gb368, 1, none⟩ (.int .i64 t366)) = w45 at n0_ n1_ n2_ n3_ ⊢
       have HO364 := n0_
       have BK355 := n1_
       have BK368 := n2_
       have HB := n3_
       clear n0_ n1_ n2_ n3_
       have n0_ := Aside0.mk (Kd.S_drew HO364.out)
       have n1_ := Aside0.mk (blk_drew BK355.out)
       have n2_ := Aside0.mk (blk_drew BK368.out)
       have n3_ := Aside0.mk (below_drew1 HB.out)
       clear HO364
       clear BK355
       clear BK368
       clear HB
       have HO364 := n0_
       have BK355 := n1_
       have BK368 := n2_
       have HB := n3_
       clear n0_ n1_ n2_ n3_
       refine start_ (n := 5) (S := fun w' => w'.cell? ⟨gb368, 0, none⟩ = some (.int .i64 t365) ∧ w'.cell? ⟨gb368, 1, none⟩ = some (.int .i64 t366)) (ds := []) #[false, false, false, false, false] (by kernel_rfl) rfl rfl ⟨(blk_cell BK368.out 0).trans rfl, (blk_cell BK368.out 1).trans rfl⟩ (fun hHeld => ?_)
       generalize w45.drew = w46 at HO364 BK355 BK368 HB hHeld ⊢
       refine pure_ (i := 0) (N := some 65) (v := ?_) (a' := ?_) #[true, false, false, false, false] rfl rfl (by kernel_rfl) (fun _ _ _ h => h) (Or.inl ⟨by rfl, ?_⟩) ?_ ?_
       rotate_left
       ·intro w'
        go_simp
        with_reducible rfl
       rotate_left
       ·simp only [Act.put, List.setIfInBounds_toArray, List.set_cons_zero, List.set_cons_succ, i64_w, i32_w]
        rfl
       refine pure_ (i := 2) (N := some 2) (v := ?_) (a' := ?_) #[true, false, true, false, false] rfl rfl (by kernel_rfl) (fun _ _ _ h => h) (Or.inl ⟨by rfl, ?_⟩) ?_ ?_
       rotate_left
       ·intro w'
        go_simp
        with_reducible rfl
       rotate_left
       ·simp only [Act.put, List.setIfInBounds_toArray, List.set_cons_zero, List.set_cons_succ, i64_w, i32_w]
        rfl
       refine take_ (i := 1) (N := some 66) (v := ?_) (a' := ?_) #[true, true, true, false, false] rfl rfl (by kernel_rfl) (fun _ _ _ h => h) (Or.inl ⟨by rfl, ?_⟩) hHeld ?_ ?_
       rotate_left
       ·rintro w' ⟨s0, s1⟩
        go_simp
        with_reducible rfl
       rotate_left
       ·simp only [Act.put, List.setIfInBounds_toArray, List.set_cons_zero, List.set_cons_succ, i64_w, i32_w]
        rfl
       refine one_ (i := 3) (N := none) #[true, true, true, true, false] rfl rfl (by kernel_rfl) (by decide) (fun K hK => ?_)
       have hs47 : w46.cell? ⟨gb355, 0, none⟩ = some (.int .i64 0) := (blk_cell BK355.out 0).trans rfl
       have hfs47 := blk_frozen BK355.out 0
       have hns47_1 := NB368_355.out
       have hms47_1 := NB355_368.out
       have hs48 : w46.cell? ⟨gb355, 1, none⟩ = some (.int .i64 0) := (blk_cell BK355.out 1).trans rfl
       have hfs48 := blk_frozen BK355.out 1
       have hns48_1 := NB368_355.out
       have hms48_1 := NB355_368.out
       refine skip_ (w1 := ?_) (by rfl) rfl ?_ ?_
       rotate_left
       ·go_simp
        rfl
       refine hK.out _ _ ⟨((cell_far (p := ⟨gb355, _, none⟩) NB368_355.out _).trans (((cell_far (p := ⟨gb355, _, none⟩) NB368_355.out _).trans (hHeld.1)))), ((cell_far (p := ⟨gb355, _, none⟩) NB368_355.out _).trans (((cell_far (p := ⟨gb355, _, none⟩) NB368_355.out _).trans (hHeld.2))))⟩ (fun hHeld => ?_)
       clear hK K
       refine pure_ (i := 4) (N := some 4) (v := ?_) (a' := ?_) #[true, true, true, true, true] rfl rfl (by kernel_rfl) (fun _ _ _ h => h) (Or.inl ⟨by rfl, ?_⟩) ?_ ?_
       rotate_left
       ·intro w'
        go_simp
        with_reducible rfl
       rotate_left
       ·simp only [Act.put, List.setIfInBounds_toArray, List.set_cons_zero, List.set_cons_succ, i64_w, i32_w]
        rfl
       refine done_ (by kernel_rfl) ?_
       try go_wp2
       refine bodyPost_ret (results_list (rs := [.tmp 2, .cell 3 24, .tmp 4]) rfl (by simp) (.tmp (.cell gb355 24 #[.int .i64 t365, .int .i64 t366] (0, 0) _ rfl (by (with_reducible repeat (first | refine blk_drewN ?_ _ | refine blk_drew ?_ | refine blk_alloc ?_ _)); refine blk_put (cs := #[.int .i64 t365, .int .i64 0]) ?_ 1 _ rfl; (with_reducible repeat (first | refine blk_drewN ?_ _ | refine blk_drew ?_ | refine blk_alloc ?_ _)); refine blk_put (cs := #[.int .i64 0, .int .i64 0]) ?_ 0 _ rfl; (with_reducible repeat (first | refine blk_drewN ?_ _ | refine blk_drew ?_ | refine blk_alloc ?_ _)); exact BK355.out) Try.underlying24 rfl (by kernel_rfl) (.tmp .nil)))) rfl ?_
       exact ⟨_, by first | rfl | (simp [errW_none, errW_some] <;> rfl) | (simp only [← hji6]; first | rfl | (simp [errW_none, errW_some] <;> rfl)) | (simp [*, errW_none, errW_some] <;> rfl), by (with_reducible repeat (first | apply Kd.S_alloc | apply Kd.S_drewN | apply Kd.S_drew)); exact Kd.S_mono (Kd.S_far (p := ⟨gb355, 1, none⟩) (Kd.S_far (p := ⟨gb355, 0, none⟩) (Kd.S_types HO364.out BK355.out (by decide)) (fun _ hk => hk.2) (.int .i64 t365)) (fun _ hk => hk.2) (.int .i64 t366)) (fun _ hk => trivial), bs HB (by simp [ag, GE355.out, GE368.out])⟩
 ·replace c3 := Bool.eq_false_iff.mpr c3
  subst c3
  have H1 : (some (([] : List (S42)), 0, 0, 3)) = some (r1, r2, r3, r4) := by rw [if_neg (show ¬ (false = true) by decide)] at H; exact H
  clear H
  have H := H1
  clear H1
  simp only [Option.some.injEq, Prod.mk.injEq] at H
  obtain ⟨rfl, rfl, rfl, rfl⟩ := H
  go_enter Try.func23, Try.ntmps23
  go_wp2_with (first | ((with_reducible refine gate_dst (N := 3) rfl ?_); refine box_event rfl (N := 3) rfl (cs := #[.int .i64 0, .int .i64 0]) (t := 24) (by first | (go_simp; done) | (go_simp; rfl)) ?_; intro gb355 hg w49 hbox hb; have BK355 := Aside0.mk (hbox); have GW355 := gs HB hg; have GE355 := gs HB hg; replace HB := Aside0.mk (below_step (bl HB) hb); clear hb hbox hg) | ((with_reducible refine gate_callee (f := 19) rfl ?_); refine goesL_ (some 15) rfl rfl Try.func19 (by kernel_rfl) rfl #[.slice A0 l0.length c0] rfl (by simp only [List.map_toArray, List.map_cons, List.map_nil]; first | done | rfl) ?_; (with_reducible refine (cyl_Whole.calls k _ _ l0 false _ ?side1 ?side2 A2.out).mono ?_); (case side1 => exact ck (Kd.C_below HR0.out HB.out)); (case side2 => exact HC0.out); rintro e w50 ⟨rfl, hb⟩; refine ⟨_, rfl, ?_⟩; replace BK355 := Aside0.mk (bb BK355 hb); replace HB := Aside0.mk (below_step (bs HB (by simp [ag, GE355.out])) hb); (try clear hb); (try clear hb2); (try clear hk); (try clear hi); obtain ⟨hcz51_0, hcz51_1, hfz51_0, hfz51_1⟩ := cf2 BK355))
  refine bodyPost_ret (results_list (rs := [.tmp 2, .cell 3 24, .tmp 4]) rfl (by simp) (.tmp (.cell gb355 24 #[.int .i64 0, .int .i64 0] (0, 0) _ rfl (by (with_reducible repeat (first | refine blk_drewN ?_ _ | refine blk_drew ?_ | refine blk_alloc ?_ _)); refine blk_put (cs := #[.int .i64 0, .int .i64 0]) ?_ 1 _ rfl; (with_reducible repeat (first | refine blk_drewN ?_ _ | refine blk_drew ?_ | refine blk_alloc ?_ _)); refine blk_put (cs := #[.int .i64 0, .int .i64 0]) ?_ 0 _ rfl; (with_reducible repeat (first | refine blk_drewN ?_ _ | refine blk_drew ?_ | refine blk_alloc ?_ _)); exact BK355.out) Try.underlying24 rfl (by kernel_rfl) (.tmp .nil)))) rfl ?_
  exact ⟨_, by first | rfl | (simp [errW_none, errW_some] <;> rfl) | (simp [*, errW_none, errW_some] <;> rfl), by first | exact Kd.S_nil _ _ _ _ _ | exact Kd.N_nil _ _ _ _ _ | exact Kd.V_nil _ _ _ _ _ | exact Kd.Q_nil _ _ _ _ _ | exact Kd.R_nil _ _ _ _ _, bs HB (by simp [ag, GE355.out])⟩

end Go.Proofs.Ytehjmmedghcndaa.PG
