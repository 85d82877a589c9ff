import Derived.Test.YtehjmmedghcndaaPGx0
import Derived.Test.YtehjmmedghcndaaG3
import Derived.Test.YtehjmmedghcndaaJ10
import Derived.Test.YtehjmmedghcndaaLT
namespace Go.Proofs.Ytehjmmedghcndaa.PG
open Go.RowKit Go.Proofs.YtehjmmedghcndaaW.PrintWords Go.Proofs.YtehjmmedghcndaaW.PrintLast Go.Proofs.YtehjmmedghcndaaW.PrintMore
attribute [local go_sem] max2_int min2_int max_two min_two max_three min_three max_four min_four run_store_one   -- for this text's walks alone
set_option linter.unusedVariables false
set_option linter.unusedSimpArgs false

/-! ### selvedgeref18_Encode: function 31 -/
mutual
def selvedgeref18_Encode.l0 : Nat → List Int → Int → Int → Int → Int → Int → Int → List Int → List Int → Option (List Int × Int)
 | 0, _, _, _, _, _, _, _, _, _ => none
 | k + 1, x4, x5, x109000, x109001, x109002, x109003, x109004, x109005, x109006 => if x5 < (x109005.length : Int) then (if 0 ≤ x5 then (if 0 ≤ (wrap64 (6 + (wrap64 (Int.tdiv (rd x109005 x5) 8)))) then (if (wrap64 (6 + (wrap64 (Int.tdiv (rd x109005 x5) 8)))) < (x4.length : Int) then (if 0 ≤ (Int.tmod (rd x109005 x5) 8) then (selvedgeref18_Encode.l0 k (x4.set ((wrap64 (6 + (wrap64 (Int.tdiv (rd x109005 x5) 8)))) : Int).toNat (Go.bits .or .u8 (rd x4 (wrap64 (6 + (wrap64 (Int.tdiv (rd x109005 x5) 8))))) (shl .u8 1 (Int.tmod (rd x109005 x5) 8)))) (wrap64 (x5 + 1)) x109000 x109001 x109002 x109003 x109004 x109005 x109006) else (none)) else (none)) else (none)) else (none)) else (selvedgeref18_Encode.l1 k x4 0 x109000 x109001 x109002 x109003 x109004 x109005 x109006)
def selvedgeref18_Encode.l1 : Nat → List Int → Int → Int → Int → Int → Int → Int → List Int → List Int → Option (List Int × Int)
 | 0, _, _, _, _, _, _, _, _, _ => none
 | k + 1, x4, x6, x109000, x109001, x109002, x109003, x109004, x109005, x109006 => if x6 < (x109006.length : Int) then (if 0 ≤ x6 then (if 0 ≤ (wrap64 (14 + (wrap64 (Int.tdiv (rd x109006 x6) 8)))) then (if (wrap64 (14 + (wrap64 (Int.tdiv (rd x109006 x6) 8)))) < (x4.length : Int) then (if 0 ≤ (Int.tmod (rd x109006 x6) 8) then (selvedgeref18_Encode.l1 k (x4.set ((wrap64 (14 + (wrap64 (Int.tdiv (rd x109006 x6) 8)))) : Int).toNat (Go.bits .or .u8 (rd x4 (wrap64 (14 + (wrap64 (Int.tdiv (rd x109006 x6) 8))))) (shl .u8 1 (Int.tmod (rd x109006 x6) 8)))) (wrap64 (x6 + 1)) x109000 x109001 x109002 x109003 x109004 x109005 x109006) else (none)) else (none)) else (none)) else (none)) else (selvedgeref18_Encode.l2 k x4 0 0)
def selvedgeref18_Encode.l2 : Nat → List Int → Int → Int → Option (List Int × Int)
 | 0, _, _, _ => none
 | k + 1, x4, x7, x8 => if x8 < 31 then (if 0 ≤ x8 then (if x8 < (x4.length : Int) then (selvedgeref18_Encode.l2 k x4 ((x7 + (rd x4 x8)) % 256) (wrap64 (x8 + 1))) else (none)) else (none)) else (if 31 < (x4.length : Int) then (some ((x4.set (31 : Int).toNat x7), 0)) else (none))
end
def selvedgeref18_Encode.f (k : Nat) (a0_0 : Int) (a0_1 : Int) (a0_2 : Int) (a0_3 : Int) (a0_4 : Int) (l0_5 : List Int) (l0_6 : List Int) : Option (List Int × Int) := (selvedgeref18_Right.f k a0_0 a0_1 a0_2 a0_3 a0_4 l0_5 l0_6).bind fun t109 => (if t109 = true then (if 32 ≤ 281474976710656 then ((some (List.replicate 32 0 : List Int)).bind fun y110 => (if 0 < (y110.length : Int) then (if 1 < (y110.length : Int) then (if 2 < (y110.length : Int) then (if 3 < (y110.length : Int) then (if 4 < (y110.length : Int) then (if 5 < (y110.length : Int) then (selvedgeref18_Encode.l0 k ((((((y110.set (0 : Int).toNat 67).set (1 : Int).toNat ((a0_0) % 256)).set (2 : Int).toNat ((a0_1) % 256)).set (3 : Int).toNat ((a0_2) % 256)).set (4 : Int).toNat ((a0_3) % 256)).set (5 : Int).toNat ((a0_4) % 256)) 0 a0_0 a0_1 a0_2 a0_3 a0_4 l0_5 l0_6) else (none)) else (none)) else (none)) else (none)) else (none)) else (none))) else (none)) else (some (([] : List Int), 3)))
def selvedgeref18_Encode.T4 : Bool × List (List Nat × List Nat) := (true, [([], []), ([], []), ([], []), ([], []), ([], []), ([], []), ([], []), ([6], [6]), ([7], [7]), ([], []), ([9], [9]), ([10], [10]), ([], []), ([12], [12]), ([13], [13]), ([], []), ([15], [15]), ([16], [16]), ([], []), ([18], [18]), ([19], [19]), ([0, 0], [0]), ([21, 0], [21]), ([1, 0, 1, 6, 7, 8, 21, 22], [1]), ([23, 8, 22, 0, 1, 6, 7, 8, 21, 22], [8, 23]), ([2, 0, 1, 2, 6, 7, 8, 9, 10, 11, 21, 22, 23, 24], [2]), ([25, 11, 24, 0, 1, 2, 6, 7, 8, 9, 10, 11, 21, 22, 23, 24], [11, 25]), ([3, 0, 1, 2, 3, 6, 7, 8, 9, 10, 11, 12, 13, 14, 21, 22, 23, 24, 25, 26], [3]), ([27, 14, 26, 0, 1, 2, 3, 6, 7, 8, 9, 10, 11, 12, 13, 14, 21, 22, 23, 24, 25, 26], [14, 27]), ([4, 0, 1, 2, 3, 4, 6, 7, 8, 9, 10, 11, 12, 13, 14, 15, 16, 17, 21, 22, 23, 24, 25, 26, 27, 28], [4]), ([29, 17, 28, 0, 1, 2, 3, 4, 6, 7, 8, 9, 10, 11, 12, 13, 14, 15, 16, 17, 21, 22, 23, 24, 25, 26, 27, 28], [17, 29]), ([5, 0, 1, 2, 3, 4, 5, 6, 7, 8, 9, 10, 11, 12, 13, 14, 15, 16, 17, 18, 19, 20, 21, 22, 23, 24, 25, 26, 27, 28, 29, 30], [5]), ([31, 20, 30, 0, 1, 2, 3, 4, 5, 6, 7, 8, 9, 10, 11, 12, 13, 14, 15, 16, 17, 18, 19, 20, 21, 22, 23, 24, 25, 26, 27, 28, 29, 30], [20, 31])])
def selvedgeref18_Encode.B4 : List Nat := [0, 0, 0, 0, 0, 0, 0, 64, 192, 0, 512, 1536, 0, 4096, 12288, 0, 32768, 98304, 0, 262144, 786432, 1, 2097153, 6291907, 14680515, 31461319, 65015751, 132153295, 266371023, 535035871, 1071906783, 2147483647, 4294967295]
theorem selvedgeref18_Encode.tab4 : rtab .any (opsOf Try.f31 4) = selvedgeref18_Encode.T4 := by kernel_rfl
theorem selvedgeref18_Encode.bits4 : waitsOk selvedgeref18_Encode.T4.2 selvedgeref18_Encode.B4 = true := by kernel_rfl
def selvedgeref18_Encode.T8 : Bool × List (List Nat × List Nat) := (true, [([], []), ([], []), ([1], [1]), ([], []), ([2, 3], [2, 3]), ([4], [4]), ([5], [5]), ([6], [6]), ([0, 7], [0, 7]), ([8], [8]), ([], []), ([10], [10]), ([], []), ([11, 12], [11, 12]), ([13], [13]), ([14], [14]), ([15], [15]), ([9, 16], [9, 16]), ([0, 7, 0, 1, 2, 3, 4, 5, 6, 7, 8, 9, 10, 11, 12, 13, 14, 15, 16, 17], [0, 7]), ([18, 17, 0, 1, 2, 3, 4, 5, 6, 7, 8, 9, 10, 11, 12, 13, 14, 15, 16, 17], [17, 18])])
def selvedgeref18_Encode.B8 : List Nat := [0, 0, 2, 0, 14, 30, 62, 126, 255, 511, 0, 1024, 0, 7168, 15360, 31744, 64512, 131071, 262143, 524287]
theorem selvedgeref18_Encode.tab8 : rtab .any (opsOf Try.f31 8) = selvedgeref18_Encode.T8 := by kernel_rfl
theorem selvedgeref18_Encode.bits8 : waitsOk selvedgeref18_Encode.T8.2 selvedgeref18_Encode.B8 = true := by kernel_rfl
def selvedgeref18_Encode.T12 : Bool × List (List Nat × List Nat) := (true, [([], []), ([], []), ([1], [1]), ([], []), ([2, 3], [2, 3]), ([4], [4]), ([5], [5]), ([6], [6]), ([0, 7], [0, 7]), ([8], [8]), ([], []), ([10], [10]), ([], []), ([11, 12], [11, 12]), ([13], [13]), ([14], [14]), ([15], [15]), ([9, 16], [9, 16]), ([0, 7, 0, 1, 2, 3, 4, 5, 6, 7, 8, 9, 10, 11, 12, 13, 14, 15, 16, 17], [0, 7]), ([18, 17, 0, 1, 2, 3, 4, 5, 6, 7, 8, 9, 10, 11, 12, 13, 14, 15, 16, 17], [17, 18])])
def selvedgeref18_Encode.B12 : List Nat := [0, 0, 2, 0, 14, 30, 62, 126, 255, 511, 0, 1024, 0, 7168, 15360, 31744, 64512, 131071, 262143, 524287]
theorem selvedgeref18_Encode.tab12 : rtab .any (opsOf Try.f31 12) = selvedgeref18_Encode.T12 := by kernel_rfl
theorem selvedgeref18_Encode.bits12 : waitsOk selvedgeref18_Encode.T12.2 selvedgeref18_Encode.B12 = true := by kernel_rfl
set_option maxHeartbeats 8000000 in
set_option maxRecDepth 100000 in
theorem selvedgeref18_Encode.calls (k : Nat) (a0_0 : Int) (a0_1 : Int) (a0_2 : Int) (a0_3 : Int) (a0_4 : Int) (A0_5 : Option Addr) (c0_5 : Nat) (l0_5 : List Int) (A0_6 : Option Addr) (c0_6 : Nat) (l0_6 : List Int) (r1 : List Int) (r2 : Int) (w : World) (hr0_5 : Kd.C (Kd.int .i64) w A0_5 l0_5.length l0_5) (hc0_5 : l0_5.length ≤ c0_5) (hr0_6 : Kd.C (Kd.int .i64) w A0_6 l0_6.length l0_6) (hc0_6 : l0_6.length ≤ c0_6) (h : selvedgeref18_Encode.f k a0_0 a0_1 a0_2 a0_3 a0_4 l0_5 l0_6 = some (r1, r2)) :
  Calls Try.prog 31 #[.agg #[.int .i64 a0_0, .int .i64 a0_1, .int .i64 a0_2, .int .i64 a0_3, .int .i64 a0_4, .slice A0_5 l0_5.length c0_5, .slice A0_6 l0_6.length c0_6]] w fun e w' => ∃ v0_ : Value, e = .returned (.tuple #[v0_, .int .i64 r2]) ∧ Kd.R (Kd.int .u8) 5 w' w.heap.size (fun _ => True) v0_ r1 ∧ Below w.heap.size w w' := by
 have hu42 := Try.underlying42
 have HR0_5 := Aside0.mk hr0_5
 have HC0_5 := Aside0.mk hc0_5
 clear hr0_5 hc0_5
 have HR0_6 := Aside0.mk hr0_6
 have HC0_6 := Aside0.mk hc0_6
 clear hr0_6 hc0_6
 have HB := Aside0.mk (Below.refl w.heap.size w)
 have H : ((selvedgeref18_Right.f k a0_0 a0_1 a0_2 a0_3 a0_4 l0_5 l0_6).bind fun t109 => (if t109 = true then (if 32 ≤ 281474976710656 then ((some (List.replicate 32 0 : List Int)).bind fun y110 => (if 0 < (y110.length : Int) then (if 1 < (y110.length : Int) then (if 2 < (y110.length : Int) then (if 3 < (y110.length : Int) then (if 4 < (y110.length : Int) then (if 5 < (y110.length : Int) then (selvedgeref18_Encode.l0 k ((((((y110.set (0 : Int).toNat 67).set (1 : Int).toNat ((a0_0) % 256)).set (2 : Int).toNat ((a0_1) % 256)).set (3 : Int).toNat ((a0_2) % 256)).set (4 : Int).toNat ((a0_3) % 256)).set (5 : Int).toNat ((a0_4) % 256)) 0 a0_0 a0_1 a0_2 a0_3 a0_4 l0_5 l0_6) else (none)) else (none)) else (none)) else (none)) else (none)) else (none))) else (none)) else (some (([] : List Int), 3)))) = some (r1, r2) := h
 clear h
 replace H := Option.bind_eq_some_iff.mp H
 obtain ⟨t109, A20, H⟩ := H
 try dsimp -implicitDefEqProofs -simprocs only at H
 have A2 := Aside0.mk A20
 clear A20
 by_cases c3 : t109 = true
 rotate_left
 ·replace c3 := Bool.eq_false_iff.mpr c3
  subst c3
  have H1 : (some (([] : List Int), 3)) = some (r1, r2) := by rw [if_neg (show ¬ (false = true) by decide)] at H; exact H
  clear H
  have H := H1
  clear H1
  simp only [Option.some.injEq, Prod.mk.injEq] at H
  obtain ⟨rfl, rfl⟩ := H
  go_enter Try.func31, Try.ntmps31
  go_wp2_with (first | ((with_reducible refine gate_dst (N := 1) rfl ?_); refine box_event rfl (N := 1) rfl (cs := #[.int .i64 a0_0, .int .i64 a0_1, .int .i64 a0_2, .int .i64 a0_3, .int .i64 a0_4, .slice A0_5 l0_5.length c0_5, .slice A0_6 l0_6.length c0_6]) (t := 42) (by first | (go_simp; done) | (go_simp; rfl)) ?_; intro gb108 hg w62 hbox hb; have BK108 := Aside0.mk (hbox); have GW108 := gs HB hg; have GE108 := gs HB hg; replace HB := Aside0.mk (below_step (bl HB) hb); clear hb hbox hg; obtain ⟨hcz63_0, hcz63_1, hcz63_2, hcz63_3, hcz63_4, hcz63_5, hcz63_6, hfz63_0, hfz63_1, hfz63_2, hfz63_3, hfz63_4, hfz63_5, hfz63_6⟩ := cf7 BK108) | ((with_reducible refine gate_callee (f := 39) rfl ?_); refine goesL_ (some 10) rfl rfl Try.func39 (by kernel_rfl) rfl #[.agg #[.int .i64 a0_0, .int .i64 a0_1, .int .i64 a0_2, .int .i64 a0_3, .int .i64 a0_4, .slice A0_5 l0_5.length c0_5, .slice A0_6 l0_6.length c0_6]] rfl (by (try simp only [List.map_toArray, List.map_cons, List.map_nil]); first | done | rfl | (simp only [List.length_drop, List.length_take]; rfl)) ?_; (with_reducible refine (selvedgeref18_Right.calls k a0_0 a0_1 a0_2 a0_3 a0_4 _ _ l0_5 _ _ l0_6 false _ ?side1 ?side2 ?side3 ?side4 A2.out).mono ?_); (case side1 => exact ck (Kd.C_below HR0_5.out HB.out)); (case side2 => exact HC0_5.out); (case side3 => exact ck (Kd.C_below HR0_6.out HB.out)); (case side4 => exact HC0_6.out); rintro e w64 ⟨rfl, hb⟩; refine ⟨_, rfl, ?_⟩; replace BK108 := Aside0.mk (bb BK108 hb); replace HB := Aside0.mk (below_step (bs HB (by simp [ag, GE108.out])) hb); (try clear hb); (try clear hb2); (try clear hk); (try clear hi)))
  go_ret2
  exact ⟨_, by first | rfl | (simp [errW_none, errW_some] <;> rfl) | (simp [*, errW_none, errW_some] <;> rfl), by first | exact Kd.R_nil _ _ _ _ _ | exact Kd.N_nil _ _ _ _ _ | exact Kd.V_nil _ _ _ _ _ | exact Kd.Q_nil _ _ _ _ _ | exact Kd.S_nil _ _ _ _ _, bs HB (by simp [ag, GE108.out])⟩

 subst c3
 have H1 : (if 32 ≤ 281474976710656 then ((some (List.replicate 32 0 : List Int)).bind fun y110 => (if 0 < (y110.length : Int) then (if 1 < (y110.length : Int) then (if 2 < (y110.length : Int) then (if 3 < (y110.length : Int) then (if 4 < (y110.length : Int) then (if 5 < (y110.length : Int) then (selvedgeref18_Encode.l0 k ((((((y110.set (0 : Int).toNat 67).set (1 : Int).toNat ((a0_0) % 256)).set (2 : Int).toNat ((a0_1) % 256)).set (3 : Int).toNat ((a0_2) % 256)).set (4 : Int).toNat ((a0_3) % 256)).set (5 : Int).toNat ((a0_4) % 256)) 0 a0_0 a0_1 a0_2 a0_3 a0_4 l0_5 l0_6) else (none)) else (none)) else (none)) else (none)) else (none)) else (none))) else (none)) = some (r1, r2) := by rw [if_pos rfl] at H; exact H
 clear H
 have H := H1
 clear H1
 by_cases c4 : 32 ≤ 281474976710656
 rotate_left
 ·rw [if_neg c4] at H
  exact absurd H (by simp)
 rw [if_pos c4] at H
 have c4b0 := eq_true c4
 have c4b1 : decide (32 ≤ 281474976710656) = true := decide_eq_true c4
 clear c4
 obtain ⟨y110, hy110⟩ : ∃ y_ : List Int, y_ = (List.replicate 32 0) := ⟨_, rfl⟩
 replace H : (if 0 < (y110.length : Int) then (if 1 < (y110.length : Int) then (if 2 < (y110.length : Int) then (if 3 < (y110.length : Int) then (if 4 < (y110.length : Int) then (if 5 < (y110.length : Int) then (selvedgeref18_Encode.l0 k ((((((y110.set (0 : Int).toNat 67).set (1 : Int).toNat ((a0_0) % 256)).set (2 : Int).toNat ((a0_1) % 256)).set (3 : Int).toNat ((a0_2) % 256)).set (4 : Int).toNat ((a0_3) % 256)).set (5 : Int).toNat ((a0_4) % 256)) 0 a0_0 a0_1 a0_2 a0_3 a0_4 l0_5 l0_6) else (none)) else (none)) else (none)) else (none)) else (none)) else (none)) = some (r1, r2) := by first | (rw [hy110]; with_reducible exact H) | (have H2_ := (Option.bind_some _ _).symm.trans H; rw [hy110]; with_reducible exact H2_) | (have H2_ := (Option.bind_some _ _).symm.trans H; with_reducible exact H2_) | with_reducible exact H | (rw [hy110]; exact H) | exact H
 have Ny110 := Aside0.mk hy110
 clear hy110
 by_cases c5 : 0 < (y110.length : Int)
 rotate_left
 ·rw [if_neg c5] at H
  exact absurd H (by simp)
 rw [if_pos c5] at H
 have c5b0 : decide (0 < (y110.length : Int)) = true := decide_eq_true c5
 have c5b1 : decide (0 < y110.length) = true := decide_eq_true (by omega)
 clear c5
 obtain ⟨y113, hy113⟩ : ∃ y_ : List Int, y_ = (y110.set (0 : Int).toNat 67) := ⟨_, rfl⟩
 replace H : (if 1 < (y110.length : Int) then (if 2 < (y110.length : Int) then (if 3 < (y110.length : Int) then (if 4 < (y110.length : Int) then (if 5 < (y110.length : Int) then (selvedgeref18_Encode.l0 k (((((y113.set (1 : Int).toNat ((a0_0) % 256)).set (2 : Int).toNat ((a0_1) % 256)).set (3 : Int).toNat ((a0_2) % 256)).set (4 : Int).toNat ((a0_3) % 256)).set (5 : Int).toNat ((a0_4) % 256)) 0 a0_0 a0_1 a0_2 a0_3 a0_4 l0_5 l0_6) else (none)) else (none)) else (none)) else (none)) else (none)) = some (r1, r2) := by first | (rw [hy113]; with_reducible exact H) | (have H2_ := (Option.bind_some _ _).symm.trans H; rw [hy113]; with_reducible exact H2_) | (have H2_ := (Option.bind_some _ _).symm.trans H; with_reducible exact H2_) | with_reducible exact H | (rw [hy113]; exact H) | exact H
 have Ny113 := Aside0.mk hy113
 clear hy113
 by_cases c7 : 1 < (y110.length : Int)
 rotate_left
 ·rw [if_neg c7] at H
  exact absurd H (by simp)
 rw [if_pos c7] at H
 have c7b0 : decide (1 < (y110.length : Int)) = true := decide_eq_true c7
 have c7b1 : decide (1 < y110.length) = true := decide_eq_true (by omega)
 clear c7
 obtain ⟨y114, hy114⟩ : ∃ y_ : List Int, y_ = (y113.set (1 : Int).toNat ((a0_0) % 256)) := ⟨_, rfl⟩
 replace H : (if 2 < (y110.length : Int) then (if 3 < (y110.length : Int) then (if 4 < (y110.length : Int) then (if 5 < (y110.length : Int) then (selvedgeref18_Encode.l0 k ((((y114.set (2 : Int).toNat ((a0_1) % 256)).set (3 : Int).toNat ((a0_2) % 256)).set (4 : Int).toNat ((a0_3) % 256)).set (5 : Int).toNat ((a0_4) % 256)) 0 a0_0 a0_1 a0_2 a0_3 a0_4 l0_5 l0_6) else (none)) else (none)) else (none)) else (none)) = some (r1, r2) := by first | (rw [hy114]; with_reducible exact H) | (have H2_ := (Option.bind_some _ _).symm.trans H; rw [hy114]; with_reducible exact H2_) | (have H2_ := (Option.bind_some _ _).symm.trans H; with_reducible exact H2_) | with_reducible exact H | (rw [hy114]; exact H) | exact H
 have Ny114 := Aside0.mk hy114
 clear hy114
 by_cases c9 : 2 < (y110.length : Int)
 rotate_left
 ·rw [if_neg c9] at H
  exact absurd H (by simp)
 rw [if_pos c9] at H
 have c9b0 : decide (2 < (y110.length : Int)) = true := decide_eq_true c9
 have c9b1 : decide (2 < y110.length) = true := decide_eq_true (by omega)
 clear c9
 obtain ⟨y115, hy115⟩ : ∃ y_ : List Int, y_ = (y114.set (2 : Int).toNat ((a0_1) % 256)) := ⟨_, rfl⟩
 replace H : (if 3 < (y110.length : Int) then (if 4 < (y110.length : Int) then (if 5 < (y110.length : Int) then (selvedgeref18_Encode.l0 k (((y115.set (3 : Int).toNat ((a0_2) % 256)).set (4 : Int).toNat ((a0_3) % 256)).set (5 : Int).toNat ((a0_4) % 256)) 0 a0_0 a0_1 a0_2 a0_3 a0_4 l0_5 l0_6) else (none)) else (none)) else (none)) = some (r1, r2) := by first | (rw [hy115]; with_reducible exact H) | (have H2_ := (Option.bind_some _ _).symm.trans H; rw [hy115]; with_reducible exact H2_) | (have H2_ := (Option.bind_some _ _).symm.trans H; with_reducible exact H2_) | with_reducible exact H | (rw [hy115]; exact H) | exact H
 have Ny115 := Aside0.mk hy115
 clear hy115
 by_cases c11 : 3 < (y110.length : Int)
 rotate_left
 ·rw [if_neg c11] at H
  exact absurd H (by simp)
 rw [if_pos c11] at H
 have c11b0 : decide (3 < (y110.length : Int)) = true := decide_eq_true c11
 have c11b1 : decide (3 < y110.length) = true := decide_eq_true (by omega)
 clear c11
 obtain ⟨y116, hy116⟩ : ∃ y_ : List Int, y_ = (y115.set (3 : Int).toNat ((a0_2) % 256)) := ⟨_, rfl⟩
 replace H : (if 4 < (y110.length : Int) then (if 5 < (y110.length : Int) then (selvedgeref18_Encode.l0 k ((y116.set (4 : Int).toNat ((a0_3) % 256)).set (5 : Int).toNat ((a0_4) % 256)) 0 a0_0 a0_1 a0_2 a0_3 a0_4 l0_5 l0_6) else (none)) else (none)) = some (r1, r2) := by first | (rw [hy116]; with_reducible exact H) | (have H2_ := (Option.bind_some _ _).symm.trans H; rw [hy116]; with_reducible exact H2_) | (have H2_ := (Option.bind_some _ _).symm.trans H; with_reducible exact H2_) | with_reducible exact H | (rw [hy116]; exact H) | exact H
 have Ny116 := Aside0.mk hy116
 clear hy116
 by_cases c13 : 4 < (y110.length : Int)
 rotate_left
 ·rw [if_neg c13] at H
  exact absurd H (by simp)
 rw [if_pos c13] at H
 have c13b0 : decide (4 < (y110.length : Int)) = true := decide_eq_true c13
 have c13b1 : decide (4 < y110.length) = true := decide_eq_true (by omega)
 clear c13
 obtain ⟨y117, hy117⟩ : ∃ y_ : List Int, y_ = (y116.set (4 : Int).toNat ((a0_3) % 256)) := ⟨_, rfl⟩
 replace H : (if 5 < (y110.length : Int) then (selvedgeref18_Encode.l0 k (y117.set (5 : Int).toNat ((a0_4) % 256)) 0 a0_0 a0_1 a0_2 a0_3 a0_4 l0_5 l0_6) else (none)) = some (r1, r2) := by first | (rw [hy117]; with_reducible exact H) | (have H2_ := (Option.bind_some _ _).symm.trans H; rw [hy117]; with_reducible exact H2_) | (have H2_ := (Option.bind_some _ _).symm.trans H; with_reducible exact H2_) | with_reducible exact H | (rw [hy117]; exact H) | exact H
 have Ny117 := Aside0.mk hy117
 clear hy117
 by_cases c15 : 5 < (y110.length : Int)
 rotate_left
 ·rw [if_neg c15] at H
  exact absurd H (by simp)
 rw [if_pos c15] at H
 have c15b0 : decide (5 < (y110.length : Int)) = true := decide_eq_true c15
 have c15b1 : decide (5 < y110.length) = true := decide_eq_true (by omega)
 clear c15
 obtain ⟨y118, hy118⟩ : ∃ y_ : List Int, y_ = (y117.set (5 : Int).toNat ((a0_4) % 256)) := ⟨_, rfl⟩
 replace H : (selvedgeref18_Encode.l0 k y118 0 a0_0 a0_1 a0_2 a0_3 a0_4 l0_5 l0_6) = some (r1, r2) := by first | (rw [hy118]; with_reducible exact H) | (have H2_ := (Option.bind_some _ _).symm.trans H; rw [hy118]; with_reducible exact H2_) | (have H2_ := (Option.bind_some _ _).symm.trans H; with_reducible exact H2_) | with_reducible exact H | (rw [hy118]; exact H) | exact H
 have Ny118 := Aside0.mk hy118
 clear hy118
 have H' := Aside0.mk H
 clear H
 go_enter Try.func31, Try.ntmps31
 try go_wp2_with (first | ((with_reducible refine gate_dst (N := 1) rfl ?_); refine box_event rfl (N := 1) rfl (cs := #[.int .i64 a0_0, .int .i64 a0_1, .int .i64 a0_2, .int .i64 a0_3, .int .i64 a0_4, .slice A0_5 l0_5.length c0_5, .slice A0_6 l0_6.length c0_6]) (t := 42) (by first | (go_simp; done) | (go_simp; rfl)) ?_; intro gb108 hg w17 hbox hb; have BK108 := Aside0.mk (hbox); have GW108 := gs HB hg; have GE108 := gs HB hg; replace HB := Aside0.mk (below_step (bl HB) hb); clear hb hbox hg; obtain ⟨hcz18_0, hcz18_1, hcz18_2, hcz18_3, hcz18_4, hcz18_5, hcz18_6, hfz18_0, hfz18_1, hfz18_2, hfz18_3, hfz18_4, hfz18_5, hfz18_6⟩ := cf7 BK108) | ((with_reducible refine gate_callee (f := 39) rfl ?_); refine goesL_ (some 10) rfl rfl Try.func39 (by kernel_rfl) rfl #[.agg #[.int .i64 a0_0, .int .i64 a0_1, .int .i64 a0_2, .int .i64 a0_3, .int .i64 a0_4, .slice A0_5 l0_5.length c0_5, .slice A0_6 l0_6.length c0_6]] rfl (by (try simp only [List.map_toArray, List.map_cons, List.map_nil]); first | done | rfl | (simp only [List.length_drop, List.length_take]; rfl)) ?_; (with_reducible refine (selvedgeref18_Right.calls k a0_0 a0_1 a0_2 a0_3 a0_4 _ _ l0_5 _ _ l0_6 true _ ?side1 ?side2 ?side3 ?side4 A2.out).mono ?_); (case side1 => exact ck (Kd.C_below HR0_5.out HB.out)); (case side2 => exact HC0_5.out); (case side3 => exact ck (Kd.C_below HR0_6.out HB.out)); (case side4 => exact HC0_6.out); rintro e w19 ⟨rfl, hb⟩; refine ⟨_, rfl, ?_⟩; replace BK108 := Aside0.mk (bb BK108 hb); replace HB := Aside0.mk (below_step (bs HB (by simp [ag, GE108.out])) hb); (try clear hb); (try clear hb2); (try clear hk); (try clear hi)) | ((with_reducible refine gate_dst (N := 12) rfl ?_); refine Kd.R_make (Kd.int .u8) _ 5 rfl (N := 12) rfl 35 _ _ rfl 32 rfl rfl Try.underlying35 (.int .u8 0) 1 info5 rfl (by decide) (by omega) 0 (ok := fun _ => True) (okp := fun _ => True) rfl (fun _ hk => hk) trivial (by omega) (by omega) (Below.refl _ _) (Nat.le_refl _) ?_; intro v111 w20 ho21 hb hg_ hnew_; clear hg_ hnew_; (first | rw [← Ny110.out] at ho21 | (simp only [Int.reduceToNat] at ho21; rw [← Ny110.out] at ho21)); have HO112 := Aside0.mk (Kd.R_lower ho21 (below_size (bs HB (by simp [ag, GE108.out])))); replace BK108 := Aside0.mk (bb BK108 hb); replace HB := Aside0.mk (below_step (bs HB (by simp [ag, GE108.out])) hb); clear hb ho21))
 have n0_ := Aside0.mk (Kd.R_drew HO112.out)
 have n1_ := Aside0.mk (blk_drew BK108.out)
 have n2_ := Aside0.mk (below_drew1 HB.out)
 clear HO112
 clear BK108
 clear HB
 have HO112 := n0_
 have BK108 := n1_
 have HB := n2_
 clear n0_ n1_ n2_
 have p6 : 0 ≤ (0 : Int) := (by omega)
 have q6 : (0 : Int) < ((y110.length : Int) : Int) := of_decide_eq_true (by first | with_reducible assumption | assumption)
 have qi6 : (0 < y110.length) = True := eq_true (by omega)
 obtain ⟨go6, co6, eo6, gb6, gl6, cl6, HG6⟩ := Kd.R_form HO112.out (by omega)
 (first | cases eo6 | (injection eo6 with ea_ en_ ec_; (first | subst ea_ | (injection ea_ with ea_; subst ea_)); subst ec_; clear en_))
 have GB6 := Aside0.mk gb6
 have GG6 := Aside0.mk HG6
 clear gb6 gl6 HG6
 obtain ⟨hx6_0, hf6_0⟩ := Kd.R_celln 0 HO112.out (0 : Int) p6 q6
 (try rw [show ((0 : Int)).toNat = 0 from rfl] at hx6_0)
 (try simp only [Nat.reduceMul, Nat.zero_mul, Nat.zero_add, Nat.reduceAdd] at hx6_0)
 (try rw [show ((0 : Int)).toNat = 0 from rfl] at hf6_0)
 (try simp only [Nat.reduceMul, Nat.zero_mul, Nat.zero_add, Nat.reduceAdd] at hf6_0)
 replace p6 := eq_true p6
 replace q6 := eq_true q6
 have HP23 := Kd.R_putn HO112.out (0 : Int) 67
 rw [← Ny113.out] at HP23
 have HQ23 := Aside0.mk HP23
 clear HP23
 have p8 : 0 ≤ (1 : Int) := (by omega)
 have q8 : (1 : Int) < ((y110.length : Int) : Int) := of_decide_eq_true (by first | with_reducible assumption | assumption)
 have qi8 : (1 < y110.length) = True := eq_true (by omega)
 obtain ⟨hx8_0, hf8_0⟩ := Kd.R_celln 0 HQ23.out (1 : Int) p8 q8
 (try rw [show ((1 : Int)).toNat = 1 from rfl] at hx8_0)
 (try simp only [Nat.reduceMul, Nat.zero_mul, Nat.zero_add, Nat.reduceAdd] at hx8_0)
 (try rw [show ((1 : Int)).toNat = 1 from rfl] at hf8_0)
 (try simp only [Nat.reduceMul, Nat.zero_mul, Nat.zero_add, Nat.reduceAdd] at hf8_0)
 replace p8 := eq_true p8
 replace q8 := eq_true q8
 have HP24 := Kd.R_putn HQ23.out (1 : Int) ((a0_0) % 256)
 rw [← Ny114.out] at HP24
 have HQ24 := Aside0.mk HP24
 clear HP24
 have p10 : 0 ≤ (2 : Int) := (by omega)
 have q10 : (2 : Int) < ((y110.length : Int) : Int) := of_decide_eq_true (by first | with_reducible assumption | assumption)
 have qi10 : (2 < y110.length) = True := eq_true (by omega)
 obtain ⟨hx10_0, hf10_0⟩ := Kd.R_celln 0 HQ24.out (2 : Int) p10 q10
 (try rw [show ((2 : Int)).toNat = 2 from rfl] at hx10_0)
 (try simp only [Nat.reduceMul, Nat.zero_mul, Nat.zero_add, Nat.reduceAdd] at hx10_0)
 (try rw [show ((2 : Int)).toNat = 2 from rfl] at hf10_0)
 (try simp only [Nat.reduceMul, Nat.zero_mul, Nat.zero_add, Nat.reduceAdd] at hf10_0)
 replace p10 := eq_true p10
 replace q10 := eq_true q10
 have HP25 := Kd.R_putn HQ24.out (2 : Int) ((a0_1) % 256)
 rw [← Ny115.out] at HP25
 have HQ25 := Aside0.mk HP25
 clear HP25
 have p12 : 0 ≤ (3 : Int) := (by omega)
 have q12 : (3 : Int) < ((y110.length : Int) : Int) := of_decide_eq_true (by first | with_reducible assumption | assumption)
 have qi12 : (3 < y110.length) = True := eq_true (by omega)
 obtain ⟨hx12_0, hf12_0⟩ := Kd.R_celln 0 HQ25.out (3 : Int) p12 q12
 (try rw [show ((3 : Int)).toNat = 3 from rfl] at hx12_0)
 (try simp only [Nat.reduceMul, Nat.zero_mul, Nat.zero_add, Nat.reduceAdd] at hx12_0)
 (try rw [show ((3 : Int)).toNat = 3 from rfl] at hf12_0)
 (try simp only [Nat.reduceMul, Nat.zero_mul, Nat.zero_add, Nat.reduceAdd] at hf12_0)
 replace p12 := eq_true p12
 replace q12 := eq_true q12
 have HP26 := Kd.R_putn HQ25.out (3 : Int) ((a0_2) % 256)
 rw [← Ny116.out] at HP26
 have HQ26 := Aside0.mk HP26
 clear HP26
 have p14 : 0 ≤ (4 : Int) := (by omega)
 have q14 : (4 : Int) < ((y110.length : Int) : Int) := of_decide_eq_true (by first | with_reducible assumption | assumption)
 have qi14 : (4 < y110.length) = True := eq_true (by omega)
 obtain ⟨hx14_0, hf14_0⟩ := Kd.R_celln 0 HQ26.out (4 : Int) p14 q14
 (try rw [show ((4 : Int)).toNat = 4 from rfl] at hx14_0)
 (try simp only [Nat.reduceMul, Nat.zero_mul, Nat.zero_add, Nat.reduceAdd] at hx14_0)
 (try rw [show ((4 : Int)).toNat = 4 from rfl] at hf14_0)
 (try simp only [Nat.reduceMul, Nat.zero_mul, Nat.zero_add, Nat.reduceAdd] at hf14_0)
 replace p14 := eq_true p14
 replace q14 := eq_true q14
 have HP27 := Kd.R_putn HQ26.out (4 : Int) ((a0_3) % 256)
 rw [← Ny117.out] at HP27
 have HQ27 := Aside0.mk HP27
 clear HP27
 have p16 : 0 ≤ (5 : Int) := (by omega)
 have q16 : (5 : Int) < ((y110.length : Int) : Int) := of_decide_eq_true (by first | with_reducible assumption | assumption)
 have qi16 : (5 < y110.length) = True := eq_true (by omega)
 obtain ⟨hx16_0, hf16_0⟩ := Kd.R_celln 0 HQ27.out (5 : Int) p16 q16
 (try rw [show ((5 : Int)).toNat = 5 from rfl] at hx16_0)
 (try simp only [Nat.reduceMul, Nat.zero_mul, Nat.zero_add, Nat.reduceAdd] at hx16_0)
 (try rw [show ((5 : Int)).toNat = 5 from rfl] at hf16_0)
 (try simp only [Nat.reduceMul, Nat.zero_mul, Nat.zero_add, Nat.reduceAdd] at hf16_0)
 replace p16 := eq_true p16
 replace q16 := eq_true q16
 have HP28 := Kd.R_putn HQ27.out (5 : Int) ((a0_4) % 256)
 rw [← Ny118.out] at HP28
 have HQ28 := Aside0.mk HP28
 clear HP28
 have RF108 : gb108 ≠ go6 := fun e_ => by
  have hc_ := GG6.out
  rw [← e_, BK108.out] at hc_
  injection hc_ with hc_
  injection hc_ with _ ht_ _
  exact absurd ht_ (by decide)
 obtain ⟨hxa_1, hfa_1⟩ := Kd.R_celln 0 HO112.out (1 : Int) (by omega) (of_decide_eq_true (by first | with_reducible assumption | assumption) : (1 : Int) < ((y110.length : Int) : Int))
 (try rw [show ((1 : Int)).toNat = 1 from rfl] at hxa_1)
 (try simp only [Nat.reduceMul, Nat.zero_mul, Nat.zero_add, Nat.reduceAdd] at hxa_1)
 (try rw [show ((1 : Int)).toNat = 1 from rfl] at hfa_1)
 (try simp only [Nat.reduceMul, Nat.zero_mul, Nat.zero_add, Nat.reduceAdd] at hfa_1)
 obtain ⟨hxa_2, hfa_2⟩ := Kd.R_celln 0 HO112.out (2 : Int) (by omega) (of_decide_eq_true (by first | with_reducible assumption | assumption) : (2 : Int) < ((y110.length : Int) : Int))
 (try rw [show ((2 : Int)).toNat = 2 from rfl] at hxa_2)
 (try simp only [Nat.reduceMul, Nat.zero_mul, Nat.zero_add, Nat.reduceAdd] at hxa_2)
 (try rw [show ((2 : Int)).toNat = 2 from rfl] at hfa_2)
 (try simp only [Nat.reduceMul, Nat.zero_mul, Nat.zero_add, Nat.reduceAdd] at hfa_2)
 obtain ⟨hxa_3, hfa_3⟩ := Kd.R_celln 0 HO112.out (3 : Int) (by omega) (of_decide_eq_true (by first | with_reducible assumption | assumption) : (3 : Int) < ((y110.length : Int) : Int))
 (try rw [show ((3 : Int)).toNat = 3 from rfl] at hxa_3)
 (try simp only [Nat.reduceMul, Nat.zero_mul, Nat.zero_add, Nat.reduceAdd] at hxa_3)
 (try rw [show ((3 : Int)).toNat = 3 from rfl] at hfa_3)
 (try simp only [Nat.reduceMul, Nat.zero_mul, Nat.zero_add, Nat.reduceAdd] at hfa_3)
 obtain ⟨hxa_4, hfa_4⟩ := Kd.R_celln 0 HO112.out (4 : Int) (by omega) (of_decide_eq_true (by first | with_reducible assumption | assumption) : (4 : Int) < ((y110.length : Int) : Int))
 (try rw [show ((4 : Int)).toNat = 4 from rfl] at hxa_4)
 (try simp only [Nat.reduceMul, Nat.zero_mul, Nat.zero_add, Nat.reduceAdd] at hxa_4)
 (try rw [show ((4 : Int)).toNat = 4 from rfl] at hfa_4)
 (try simp only [Nat.reduceMul, Nat.zero_mul, Nat.zero_add, Nat.reduceAdd] at hfa_4)
 obtain ⟨hxa_5, hfa_5⟩ := Kd.R_celln 0 HO112.out (5 : Int) (by omega) (of_decide_eq_true (by first | with_reducible assumption | assumption) : (5 : Int) < ((y110.length : Int) : Int))
 (try rw [show ((5 : Int)).toNat = 5 from rfl] at hxa_5)
 (try simp only [Nat.reduceMul, Nat.zero_mul, Nat.zero_add, Nat.reduceAdd] at hxa_5)
 (try rw [show ((5 : Int)).toNat = 5 from rfl] at hfa_5)
 (try simp only [Nat.reduceMul, Nat.zero_mul, Nat.zero_add, Nat.reduceAdd] at hfa_5)
 refine start_ (n := 33) (S := fun w' => w'.cell? ⟨gb108, 0, none⟩ = some (.int .i64 a0_0) ∧ w'.cell? ⟨gb108, 1, none⟩ = some (.int .i64 a0_1) ∧ w'.cell? ⟨gb108, 2, none⟩ = some (.int .i64 a0_2) ∧ w'.cell? ⟨gb108, 3, none⟩ = some (.int .i64 a0_3) ∧ w'.cell? ⟨gb108, 4, none⟩ = some (.int .i64 a0_4) ∧ w'.cell? ⟨gb108, 5, none⟩ = some (.slice A0_5 l0_5.length c0_5) ∧ w'.cell? ⟨gb108, 6, none⟩ = some (.slice A0_6 l0_6.length c0_6)) (ds := []) #[false, false, false, false, false, false, false, false, false, false, false, false, false, false, false, false, false, false, false, false, false, false, false, false, false, false, false, false, false, false, false, false, false] (by kernel_rfl) rfl rfl ⟨(blk_cell BK108.out 0).trans rfl, (blk_cell BK108.out 1).trans rfl, (blk_cell BK108.out 2).trans rfl, (blk_cell BK108.out 3).trans rfl, (blk_cell BK108.out 4).trans rfl, (blk_cell BK108.out 5).trans rfl, (blk_cell BK108.out 6).trans rfl⟩ (fun hHeld => ?_); refine with_tabW selvedgeref18_Encode.tab4 selvedgeref18_Encode.bits4 (fun HT_ HW_ => ?_)
 generalize w20.drew = w22 at hxa_1 hfa_1 hxa_2 hfa_2 hxa_3 hfa_3 hxa_4 hfa_4 hxa_5 hfa_5 HO112 BK108 HB GG6 HQ23 HQ24 HQ25 HQ26 HQ27 HQ28 hf10_0 hf12_0 hf14_0 hf16_0 hf6_0 hf8_0 hx10_0 hx12_0 hx14_0 hx16_0 hx6_0 hx8_0 hHeld ⊢
 refine pure_ (i := 0) (N := some 13) (v := ?_) (a' := ?_) (bA 33 1) rfl rfl (any_of HT_.out (by kernel_rfl)) (fun _ _ _ h => h) (Or.inl ⟨by rfl, ?_⟩) ?_ ?_
 rotate_left
 ·intro w'
  go_simp
  with_reducible rfl
 rotate_left
 ·simp only [Act.put, List.setIfInBounds_toArray, List.set_cons_zero, List.set_cons_succ, i64_w, i32_w]
  rfl
 refine pure_ (i := 1) (N := some 14) (v := ?_) (a' := ?_) (bA 33 3) rfl rfl (any_of HT_.out (by kernel_rfl)) (fun _ _ _ h => h) (Or.inl ⟨by rfl, ?_⟩) ?_ ?_
 rotate_left
 ·intro w'
  go_simp
  with_reducible rfl
 rotate_left
 ·simp only [Act.put, List.setIfInBounds_toArray, List.set_cons_zero, List.set_cons_succ, i64_w, i32_w]
  rfl
 refine pure_ (i := 2) (N := some 15) (v := ?_) (a' := ?_) (bA 33 7) rfl rfl (any_of HT_.out (by kernel_rfl)) (fun _ _ _ h => h) (Or.inl ⟨by rfl, ?_⟩) ?_ ?_
 rotate_left
 ·intro w'
  go_simp
  with_reducible rfl
 rotate_left
 ·simp only [Act.put, List.setIfInBounds_toArray, List.set_cons_zero, List.set_cons_succ, i64_w, i32_w]
  rfl
 refine pure_ (i := 3) (N := some 16) (v := ?_) (a' := ?_) (bA 33 15) rfl rfl (any_of HT_.out (by kernel_rfl)) (fun _ _ _ h => h) (Or.inl ⟨by rfl, ?_⟩) ?_ ?_
 rotate_left
 ·intro w'
  go_simp
  with_reducible rfl
 rotate_left
 ·simp only [Act.put, List.setIfInBounds_toArray, List.set_cons_zero, List.set_cons_succ, i64_w, i32_w]
  rfl
 refine pure_ (i := 4) (N := some 17) (v := ?_) (a' := ?_) (bA 33 31) rfl rfl (any_of HT_.out (by kernel_rfl)) (fun _ _ _ h => h) (Or.inl ⟨by rfl, ?_⟩) ?_ ?_
 rotate_left
 ·intro w'
  go_simp
  with_reducible rfl
 rotate_left
 ·simp only [Act.put, List.setIfInBounds_toArray, List.set_cons_zero, List.set_cons_succ, i64_w, i32_w]
  rfl
 refine pure_ (i := 5) (N := some 18) (v := ?_) (a' := ?_) (bA 33 63) rfl rfl (any_of HT_.out (by kernel_rfl)) (fun _ _ _ h => h) (Or.inl ⟨by rfl, ?_⟩) ?_ ?_
 rotate_left
 ·intro w'
  go_simp
  with_reducible rfl
 rotate_left
 ·simp only [Act.put, List.setIfInBounds_toArray, List.set_cons_zero, List.set_cons_succ, i64_w, i32_w]
  rfl
 refine pure_ (i := 6) (N := some 19) (v := ?_) (a' := ?_) (bA 33 127) rfl rfl (any_of HT_.out (by kernel_rfl)) (fun _ _ _ h => h) (Or.inl ⟨by rfl, ?_⟩) ?_ ?_
 rotate_left
 ·intro w'
  go_simp
  with_reducible rfl
 rotate_left
 ·simp only [Act.put, List.setIfInBounds_toArray, List.set_cons_zero, List.set_cons_succ, i64_w, i32_w]
  rfl
 refine pure_ (i := 9) (N := some 22) (v := ?_) (a' := ?_) (bA 33 639) rfl rfl (any_of HT_.out (by kernel_rfl)) (fun _ _ _ h => h) (Or.inl ⟨by rfl, ?_⟩) ?_ ?_
 rotate_left
 ·intro w'
  go_simp
  with_reducible rfl
 rotate_left
 ·simp only [Act.put, List.setIfInBounds_toArray, List.set_cons_zero, List.set_cons_succ, i64_w, i32_w]
  rfl
 refine pure_ (i := 12) (N := some 25) (v := ?_) (a' := ?_) (bA 33 4735) rfl rfl (any_of HT_.out (by kernel_rfl)) (fun _ _ _ h => h) (Or.inl ⟨by rfl, ?_⟩) ?_ ?_
 rotate_left
 ·intro w'
  go_simp
  with_reducible rfl
 rotate_left
 ·simp only [Act.put, List.setIfInBounds_toArray, List.set_cons_zero, List.set_cons_succ, i64_w, i32_w]
  rfl
 refine pure_ (i := 15) (N := some 28) (v := ?_) (a' := ?_) (bA 33 37503) rfl rfl (any_of HT_.out (by kernel_rfl)) (fun _ _ _ h => h) (Or.inl ⟨by rfl, ?_⟩) ?_ ?_
 rotate_left
 ·intro w'
  go_simp
  with_reducible rfl
 rotate_left
 ·simp only [Act.put, List.setIfInBounds_toArray, List.set_cons_zero, List.set_cons_succ, i64_w, i32_w]
  rfl
 refine pure_ (i := 18) (N := some 31) (v := ?_) (a' := ?_) (bA 33 299647) rfl rfl (any_of HT_.out (by kernel_rfl)) (fun _ _ _ h => h) (Or.inl ⟨by rfl, ?_⟩) ?_ ?_
 rotate_left
 ·intro w'
  go_simp
  with_reducible rfl
 rotate_left
 ·simp only [Act.put, List.setIfInBounds_toArray, List.set_cons_zero, List.set_cons_succ, i64_w, i32_w]
  rfl
 refine pure_ (i := 21) (N := some 34) (v := ?_) (a' := ?_) (bA 33 2396799) rfl rfl (any_of HT_.out (by kernel_rfl)) (fun _ _ _ h => h) (Or.inl ⟨by rfl, ?_⟩) ?_ ?_
 rotate_left
 ·intro w'
  go_simp
  with_reducible rfl
 rotate_left
 ·simp only [Act.put, List.setIfInBounds_toArray, List.set_cons_zero, List.set_cons_succ, i64_w, i32_w]
  rfl
 refine take_ (i := 7) (N := some 20) (v := ?_) (a' := ?_) (bA 33 2396927) rfl rfl (take_ofW HT_.out HW_.out (by kernel_rfl)) (fun _ _ _ h => h) (Or.inl ⟨by rfl, ?_⟩) hHeld ?_ ?_
 rotate_left
 ·rintro w' ⟨s0, s1, s2, s3, s4, s5, s6⟩
  go_simp
  with_reducible rfl
 rotate_left
 ·simp only [Act.put, List.setIfInBounds_toArray, List.set_cons_zero, List.set_cons_succ, i64_w, i32_w]
  rfl
 refine pure_ (i := 8) (N := some 21) (v := ?_) (a' := ?_) (bA 33 2397183) rfl rfl (any_of HT_.out (by kernel_rfl)) (fun _ _ _ h => h) (Or.inl ⟨by rfl, ?_⟩) ?_ ?_
 rotate_left
 ·intro w'
  go_simp
  with_reducible rfl
 rotate_left
 ·simp only [Act.put, List.setIfInBounds_toArray, List.set_cons_zero, List.set_cons_succ, i64_w, i32_w]
  rfl
 refine take_ (i := 10) (N := some 23) (v := ?_) (a' := ?_) (bA 33 2398207) rfl rfl (take_ofW HT_.out HW_.out (by kernel_rfl)) (fun _ _ _ h => h) (Or.inl ⟨by rfl, ?_⟩) hHeld ?_ ?_
 rotate_left
 ·rintro w' ⟨s0, s1, s2, s3, s4, s5, s6⟩
  go_simp
  with_reducible rfl
 rotate_left
 ·simp only [Act.put, List.setIfInBounds_toArray, List.set_cons_zero, List.set_cons_succ, i64_w, i32_w]
  rfl
 refine pure_ (i := 11) (N := some 24) (v := ?_) (a' := ?_) (bA 33 2400255) rfl rfl (any_of HT_.out (by kernel_rfl)) (fun _ _ _ h => h) (Or.inl ⟨by rfl, ?_⟩) ?_ ?_
 rotate_left
 ·intro w'
  go_simp
  with_reducible rfl
 rotate_left
 ·simp only [Act.put, List.setIfInBounds_toArray, List.set_cons_zero, List.set_cons_succ, i64_w, i32_w]
  rfl
 refine take_ (i := 13) (N := some 26) (v := ?_) (a' := ?_) (bA 33 2408447) rfl rfl (take_ofW HT_.out HW_.out (by kernel_rfl)) (fun _ _ _ h => h) (Or.inl ⟨by rfl, ?_⟩) hHeld ?_ ?_
 rotate_left
 ·rintro w' ⟨s0, s1, s2, s3, s4, s5, s6⟩
  go_simp
  with_reducible rfl
 rotate_left
 ·simp only [Act.put, List.setIfInBounds_toArray, List.set_cons_zero, List.set_cons_succ, i64_w, i32_w]
  rfl
 refine pure_ (i := 14) (N := some 27) (v := ?_) (a' := ?_) (bA 33 2424831) rfl rfl (any_of HT_.out (by kernel_rfl)) (fun _ _ _ h => h) (Or.inl ⟨by rfl, ?_⟩) ?_ ?_
 rotate_left
 ·intro w'
  go_simp
  with_reducible rfl
 rotate_left
 ·simp only [Act.put, List.setIfInBounds_toArray, List.set_cons_zero, List.set_cons_succ, i64_w, i32_w]
  rfl
 refine take_ (i := 16) (N := some 29) (v := ?_) (a' := ?_) (bA 33 2490367) rfl rfl (take_ofW HT_.out HW_.out (by kernel_rfl)) (fun _ _ _ h => h) (Or.inl ⟨by rfl, ?_⟩) hHeld ?_ ?_
 rotate_left
 ·rintro w' ⟨s0, s1, s2, s3, s4, s5, s6⟩
  go_simp
  with_reducible rfl
 rotate_left
 ·simp only [Act.put, List.setIfInBounds_toArray, List.set_cons_zero, List.set_cons_succ, i64_w, i32_w]
  rfl
 refine pure_ (i := 17) (N := some 30) (v := ?_) (a' := ?_) (bA 33 2621439) rfl rfl (any_of HT_.out (by kernel_rfl)) (fun _ _ _ h => h) (Or.inl ⟨by rfl, ?_⟩) ?_ ?_
 rotate_left
 ·intro w'
  go_simp
  with_reducible rfl
 rotate_left
 ·simp only [Act.put, List.setIfInBounds_toArray, List.set_cons_zero, List.set_cons_succ, i64_w, i32_w]
  rfl
 refine take_ (i := 19) (N := some 32) (v := ?_) (a' := ?_) (bA 33 3145727) rfl rfl (take_ofW HT_.out HW_.out (by kernel_rfl)) (fun _ _ _ h => h) (Or.inl ⟨by rfl, ?_⟩) hHeld ?_ ?_
 rotate_left
 ·rintro w' ⟨s0, s1, s2, s3, s4, s5, s6⟩
  go_simp
  with_reducible rfl
 rotate_left
 ·simp only [Act.put, List.setIfInBounds_toArray, List.set_cons_zero, List.set_cons_succ, i64_w, i32_w]
  rfl
 refine pure_ (i := 20) (N := some 33) (v := ?_) (a' := ?_) (bA 33 4194303) rfl rfl (any_of HT_.out (by kernel_rfl)) (fun _ _ _ h => h) (Or.inl ⟨by rfl, ?_⟩) ?_ ?_
 rotate_left
 ·intro w'
  go_simp
  with_reducible rfl
 rotate_left
 ·simp only [Act.put, List.setIfInBounds_toArray, List.set_cons_zero, List.set_cons_succ, i64_w, i32_w]
  rfl
 refine one_ (i := 22) (N := none) (bA 33 8388607) rfl rfl (one_of HT_.out (by kernel_rfl)) (by decide) (fun K hK => ?_)
 refine skip_ (w1 := ?_) (by rfl) rfl ?_ ?_
 rotate_left
 ·go_simp
  rfl
 refine hK.out _ _ ⟨((cell_far (p := ⟨go6, _, none⟩) (by first | exact RF108 | exact RF108.symm) _).trans (hHeld.1)), ((cell_far (p := ⟨go6, _, none⟩) (by first | exact RF108 | exact RF108.symm) _).trans (hHeld.2.1)), ((cell_far (p := ⟨go6, _, none⟩) (by first | exact RF108 | exact RF108.symm) _).trans (hHeld.2.2.1)), ((cell_far (p := ⟨go6, _, none⟩) (by first | exact RF108 | exact RF108.symm) _).trans (hHeld.2.2.2.1)), ((cell_far (p := ⟨go6, _, none⟩) (by first | exact RF108 | exact RF108.symm) _).trans (hHeld.2.2.2.2.1)), ((cell_far (p := ⟨go6, _, none⟩) (by first | exact RF108 | exact RF108.symm) _).trans (hHeld.2.2.2.2.2.1)), ((cell_far (p := ⟨go6, _, none⟩) (by first | exact RF108 | exact RF108.symm) _).trans (hHeld.2.2.2.2.2.2))⟩ (fun hHeld => ?_)
 clear hK K
 refine pure_ (i := 23) (N := some 35) (v := ?_) (a' := ?_) (bA 33 16777215) rfl rfl (any_of HT_.out (by kernel_rfl)) (fun _ _ _ h => h) (Or.inl ⟨by rfl, ?_⟩) ?_ ?_
 rotate_left
 ·intro w'
  go_simp
  with_reducible rfl
 rotate_left
 ·simp only [Act.put, List.setIfInBounds_toArray, List.set_cons_zero, List.set_cons_succ, i64_w, i32_w]
  rfl
 refine one_ (i := 24) (N := none) (bA 33 33554431) rfl rfl (one_of HT_.out (by kernel_rfl)) (by decide) (fun K hK => ?_)
 refine skip_ (w1 := ?_) (by rfl) rfl ?_ ?_
 rotate_left
 ·go_simp
  rfl
 refine hK.out _ _ ⟨((cell_far (p := ⟨go6, _, none⟩) (by first | exact RF108 | exact RF108.symm) _).trans (hHeld.1)), ((cell_far (p := ⟨go6, _, none⟩) (by first | exact RF108 | exact RF108.symm) _).trans (hHeld.2.1)), ((cell_far (p := ⟨go6, _, none⟩) (by first | exact RF108 | exact RF108.symm) _).trans (hHeld.2.2.1)), ((cell_far (p := ⟨go6, _, none⟩) (by first | exact RF108 | exact RF108.symm) _).trans (hHeld.2.2.2.1)), ((cell_far (p := ⟨go6, _, none⟩) (by first | exact RF108 | exact RF108.symm) _).trans (hHeld.2.2.2.2.1)), ((cell_far (p := ⟨go6, _, none⟩) (by first | exact RF108 | exact RF108.symm) _).trans (hHeld.2.2.2.2.2.1)), ((cell_far (p := ⟨go6, _, none⟩) (by first | exact RF108 | exact RF108.symm) _).trans (hHeld.2.2.2.2.2.2))⟩ (fun hHeld => ?_)
 clear hK K
 refine pure_ (i := 25) (N := some 36) (v := ?_) (a' := ?_) (bA 33 67108863) rfl rfl (any_of HT_.out (by kernel_rfl)) (fun _ _ _ h => h) (Or.inl ⟨by rfl, ?_⟩) ?_ ?_
 rotate_left
 ·intro w'
  go_simp
  with_reducible rfl
 rotate_left
 ·simp only [Act.put, List.setIfInBounds_toArray, List.set_cons_zero, List.set_cons_succ, i64_w, i32_w]
  rfl
 refine one_ (i := 26) (N := none) (bA 33 134217727) rfl rfl (one_of HT_.out (by kernel_rfl)) (by decide) (fun K hK => ?_)
 refine skip_ (w1 := ?_) (by rfl) rfl ?_ ?_
 rotate_left
 ·go_simp
  rfl
 refine hK.out _ _ ⟨((cell_far (p := ⟨go6, _, none⟩) (by first | exact RF108 | exact RF108.symm) _).trans (hHeld.1)), ((cell_far (p := ⟨go6, _, none⟩) (by first | exact RF108 | exact RF108.symm) _).trans (hHeld.2.1)), ((cell_far (p := ⟨go6, _, none⟩) (by first | exact RF108 | exact RF108.symm) _).trans (hHeld.2.2.1)), ((cell_far (p := ⟨go6, _, none⟩) (by first | exact RF108 | exact RF108.symm) _).trans (hHeld.2.2.2.1)), ((cell_far (p := ⟨go6, _, none⟩) (by first | exact RF108 | exact RF108.symm) _).trans (hHeld.2.2.2.2.1)), ((cell_far (p := ⟨go6, _, none⟩) (by first | exact RF108 | exact RF108.symm) _).trans (hHeld.2.2.2.2.2.1)), ((cell_far (p := ⟨go6, _, none⟩) (by first | exact RF108 | exact RF108.symm) _).trans (hHeld.2.2.2.2.2.2))⟩ (fun hHeld => ?_)
 clear hK K
 refine pure_ (i := 27) (N := some 37) (v := ?_) (a' := ?_) (bA 33 268435455) rfl rfl (any_of HT_.out (by kernel_rfl)) (fun _ _ _ h => h) (Or.inl ⟨by rfl, ?_⟩) ?_ ?_
 rotate_left
 ·intro w'
  go_simp
  with_reducible rfl
 rotate_left
 ·simp only [Act.put, List.setIfInBounds_toArray, List.set_cons_zero, List.set_cons_succ, i64_w, i32_w]
  rfl
 refine one_ (i := 28) (N := none) (bA 33 536870911) rfl rfl (one_of HT_.out (by kernel_rfl)) (by decide) (fun K hK => ?_)
 refine skip_ (w1 := ?_) (by rfl) rfl ?_ ?_
 rotate_left
 ·go_simp
  rfl
 refine hK.out _ _ ⟨((cell_far (p := ⟨go6, _, none⟩) (by first | exact RF108 | exact RF108.symm) _).trans (hHeld.1)), ((cell_far (p := ⟨go6, _, none⟩) (by first | exact RF108 | exact RF108.symm) _).trans (hHeld.2.1)), ((cell_far (p := ⟨go6, _, none⟩) (by first | exact RF108 | exact RF108.symm) _).trans (hHeld.2.2.1)), ((cell_far (p := ⟨go6, _, none⟩) (by first | exact RF108 | exact RF108.symm) _).trans (hHeld.2.2.2.1)), ((cell_far (p := ⟨go6, _, none⟩) (by first | exact RF108 | exact RF108.symm) _).trans (hHeld.2.2.2.2.1)), ((cell_far (p := ⟨go6, _, none⟩) (by first | exact RF108 | exact RF108.symm) _).trans (hHeld.2.2.2.2.2.1)), ((cell_far (p := ⟨go6, _, none⟩) (by first | exact RF108 | exact RF108.symm) _).trans (hHeld.2.2.2.2.2.2))⟩ (fun hHeld => ?_)
 clear hK K
 refine pure_ (i := 29) (N := some 38) (v := ?_) (a' := ?_) (bA 33 1073741823) rfl rfl (any_of HT_.out (by kernel_rfl)) (fun _ _ _ h => h) (Or.inl ⟨by rfl, ?_⟩) ?_ ?_
 rotate_left
 ·intro w'
  go_simp
  with_reducible rfl
 rotate_left
 ·simp only [Act.put, List.setIfInBounds_toArray, List.set_cons_zero, List.set_cons_succ, i64_w, i32_w]
  rfl
 refine one_ (i := 30) (N := none) (bA 33 2147483647) rfl rfl (one_of HT_.out (by kernel_rfl)) (by decide) (fun K hK => ?_)
 refine skip_ (w1 := ?_) (by rfl) rfl ?_ ?_
 rotate_left
 ·go_simp
  rfl
 refine hK.out _ _ ⟨((cell_far (p := ⟨go6, _, none⟩) (by first | exact RF108 | exact RF108.symm) _).trans (hHeld.1)), ((cell_far (p := ⟨go6, _, none⟩) (by first | exact RF108 | exact RF108.symm) _).trans (hHeld.2.1)), ((cell_far (p := ⟨go6, _, none⟩) (by first | exact RF108 | exact RF108.symm) _).trans (hHeld.2.2.1)), ((cell_far (p := ⟨go6, _, none⟩) (by first | exact RF108 | exact RF108.symm) _).trans (hHeld.2.2.2.1)), ((cell_far (p := ⟨go6, _, none⟩) (by first | exact RF108 | exact RF108.symm) _).trans (hHeld.2.2.2.2.1)), ((cell_far (p := ⟨go6, _, none⟩) (by first | exact RF108 | exact RF108.symm) _).trans (hHeld.2.2.2.2.2.1)), ((cell_far (p := ⟨go6, _, none⟩) (by first | exact RF108 | exact RF108.symm) _).trans (hHeld.2.2.2.2.2.2))⟩ (fun hHeld => ?_)
 clear hK K
 refine pure_ (i := 31) (N := some 39) (v := ?_) (a' := ?_) (bA 33 4294967295) rfl rfl (any_of HT_.out (by kernel_rfl)) (fun _ _ _ h => h) (Or.inl ⟨by rfl, ?_⟩) ?_ ?_
 rotate_left
 ·intro w'
  go_simp
  with_reducible rfl
 rotate_left
 ·simp only [Act.put, List.setIfInBounds_toArray, List.set_cons_zero, List.set_cons_succ, i64_w, i32_w]
  rfl
 refine one_ (i := 32) (N := none) (bA 33 8589934591) rfl rfl (one_of HT_.out (by kernel_rfl)) (by decide) (fun K hK => ?_)
 refine skip_ (w1 := ?_) (by rfl) rfl ?_ ?_
 rotate_left
 ·go_simp
  rfl
 refine hK.out _ _ ⟨((cell_far (p := ⟨go6, _, none⟩) (by first | exact RF108 | exact RF108.symm) _).trans (hHeld.1)), ((cell_far (p := ⟨go6, _, none⟩) (by first | exact RF108 | exact RF108.symm) _).trans (hHeld.2.1)), ((cell_far (p := ⟨go6, _, none⟩) (by first | exact RF108 | exact RF108.symm) _).trans (hHeld.2.2.1)), ((cell_far (p := ⟨go6, _, none⟩) (by first | exact RF108 | exact RF108.symm) _).trans (hHeld.2.2.2.1)), ((cell_far (p := ⟨go6, _, none⟩) (by first | exact RF108 | exact RF108.symm) _).trans (hHeld.2.2.2.2.1)), ((cell_far (p := ⟨go6, _, none⟩) (by first | exact RF108 | exact RF108.symm) _).trans (hHeld.2.2.2.2.2.1)), ((cell_far (p := ⟨go6, _, none⟩) (by first | exact RF108 | exact RF108.symm) _).trans (hHeld.2.2.2.2.2.2))⟩ (fun hHeld => ?_)
 clear hK K
 refine done_ (done_of HT_.out (by kernel_rfl)) ?_
 try go_wp2
 go_loopg [5] k (fun kq v5 w' => ∃ (x4_1 : List Int) (x5_1 : Int), v5 = .int .i64 x5_1 ∧ Aside0 (selvedgeref18_Encode.l0 kq x4_1 x5_1 a0_0 a0_1 a0_2 a0_3 a0_4 l0_5 l0_6 = some (r1, r2)) ∧ Aside0 (kq ≤ k) ∧ Aside0 (Kd.R (Kd.int .u8) 5 w' w.heap.size (fun _ => True) (.slice (some ⟨go6, 0, none⟩) y110.length co6) x4_1) ∧ Aside0 (w'.heap[gb108]? = some (.cells #[.int .i64 a0_0, .int .i64 a0_1, .int .i64 a0_2, .int .i64 a0_3, .int .i64 a0_4, (.slice A0_5 l0_5.length c0_5), (.slice A0_6 l0_6.length c0_6)] 42 (0, 0))) ∧ Aside0 (Below w.heap.size w w'))
 case atStart => exact ⟨(y118), (0), (by first | rfl | (simp; done) | (simp [*]; done)), H', ⟨Nat.le_refl _⟩, ⟨by (with_reducible repeat (first | apply Kd.R_alloc | apply Kd.R_drewN | apply Kd.R_drew)); exact HQ28.out⟩, ⟨by (with_reducible repeat (first | refine blk_drewN ?_ _ | refine blk_drew ?_ | refine blk_alloc ?_ _)); refine blk_far ?_ (by have h_ := Kd.R_ne HO112.out BK108.out (by decide); intro e_; exact h_ (by rw [e_]; rfl)) _; (with_reducible repeat (first | refine blk_drewN ?_ _ | refine blk_drew ?_ | refine blk_alloc ?_ _)); refine blk_far ?_ (by have h_ := Kd.R_ne HO112.out BK108.out (by decide); intro e_; exact h_ (by rw [e_]; rfl)) _; (with_reducible repeat (first | refine blk_drewN ?_ _ | refine blk_drew ?_ | refine blk_alloc ?_ _)); refine blk_far ?_ (by have h_ := Kd.R_ne HO112.out BK108.out (by decide); intro e_; exact h_ (by rw [e_]; rfl)) _; (with_reducible repeat (first | refine blk_drewN ?_ _ | refine blk_drew ?_ | refine blk_alloc ?_ _)); refine blk_far ?_ (by have h_ := Kd.R_ne HO112.out BK108.out (by decide); intro e_; exact h_ (by rw [e_]; rfl)) _; (with_reducible repeat (first | refine blk_drewN ?_ _ | refine blk_drew ?_ | refine blk_alloc ?_ _)); refine blk_far ?_ (by have h_ := Kd.R_ne HO112.out BK108.out (by decide); intro e_; exact h_ (by rw [e_]; rfl)) _; (with_reducible repeat (first | refine blk_drewN ?_ _ | refine blk_drew ?_ | refine blk_alloc ?_ _)); refine blk_far ?_ (by have h_ := Kd.R_ne HO112.out BK108.out (by decide); intro e_; exact h_ (by rw [e_]; rfl)) _; (with_reducible repeat (first | refine blk_drewN ?_ _ | refine blk_drew ?_ | refine blk_alloc ?_ _)); exact BK108.out⟩, ⟨bs HB (by simp [ag, GB6.out, GE108.out])⟩⟩
 case round =>
  clear H'
  try clear c1
  try clear p1
  try clear q1
  try clear hx1
  try clear qi1
  try clear hf1
  try clear p2
  try clear c3
  try clear c4
  try clear c4b0
  try clear c4b1
  try clear c5
  try clear c5b0
  try clear c5b1
  try clear p6
  try clear q6
  try clear hx6
  try clear qi6
  try clear hf6
  try clear c7
  try clear c7b0
  try clear c7b1
  try clear p8
  try clear q8
  try clear hx8
  try clear qi8
  try clear hf8
  try clear c9
  try clear c9b0
  try clear c9b1
  try clear p10
  try clear q10
  try clear hx10
  try clear qi10
  try clear hf10
  try clear c11
  try clear c11b0
  try clear c11b1
  try clear p12
  try clear q12
  try clear hx12
  try clear qi12
  try clear hf12
  try clear c13
  try clear c13b0
  try clear c13b1
  try clear p14
  try clear q14
  try clear hx14
  try clear qi14
  try clear hf14
  try clear c15
  try clear c15b0
  try clear c15b1
  try clear p16
  try clear q16
  try clear hx16
  try clear qi16
  try clear hf16
  try clear hcz18_0
  try clear hcz18_1
  try clear hcz18_2
  try clear hcz18_3
  try clear hcz18_4
  try clear hcz18_5
  try clear hcz18_6
  try clear hfz18_0
  try clear hfz18_1
  try clear hfz18_2
  try clear hfz18_3
  try clear hfz18_4
  try clear hfz18_5
  try clear hfz18_6
  try clear hx10_0
  try clear hx12_0
  try clear hx14_0
  try clear hx16_0
  try clear hx6_0
  try clear hx8_0
  try clear p10
  try clear p12
  try clear p14
  try clear p16
  try clear p6
  try clear p8
  try clear q10
  try clear q12
  try clear q14
  try clear q16
  try clear q6
  try clear q8
  obtain ⟨x4_1, x5_1, rfl, HA, HK1, HO_4, BK108, HB⟩ := hrel
  have hl4_1 := (Kd.R_reads' HO_4.out).1
  rw [hl4_1] at HO_4
  (try simp only [hl4_1])
  (try simp only [hl4_1] at BK108)
  cases gk with
  | zero => exact absurd HA.out (by simp [selvedgeref18_Encode.l0])
  | succ k1 =>
   have H := HA.out
   clear HA
   simp only [selvedgeref18_Encode.l0] at H
   by_cases c29 : x5_1 < (l0_5.length : Int)
   ·rw [if_pos c29] at H
    have c29b0 : decide (x5_1 < (l0_5.length : Int)) = true := decide_eq_true c29
    clear c29
    by_cases c30 : 0 ≤ x5_1
    rotate_left
    ·rw [if_neg c30] at H
     exact absurd H (by simp)
    rw [if_pos c30] at H
    have c30b0 : decide (0 ≤ x5_1) = true := decide_eq_true c30
    clear c30
    obtain ⟨ji31, hji31⟩ : ∃ j_ : Int, (wrap64 (6 + (wrap64 (Int.tdiv (rd l0_5 x5_1) 8)))) = j_ := ⟨_, rfl⟩
    replace H : (if 0 ≤ (ji31) then (if (ji31) < (x4_1.length : Int) then (if 0 ≤ (Int.tmod (rd l0_5 x5_1) 8) then (selvedgeref18_Encode.l0 k1 (x4_1.set ((ji31) : Int).toNat (Go.bits .or .u8 (rd x4_1 (ji31)) (shl .u8 1 (Int.tmod (rd l0_5 x5_1) 8)))) (wrap64 (x5_1 + 1)) a0_0 a0_1 a0_2 a0_3 a0_4 l0_5 l0_6) else (none)) else (none)) else (none)) = some (r1, r2) := by first | (rw [hji31] at H; exact H) | (simp only [hji31] at H ⊢; exact H)
    have hji31w : (IntKind.i64.wrap (6 + (wrap64 (Int.tdiv (rd l0_5 x5_1) 8)))) = ji31 := (i64_w _).trans hji31
    by_cases c32 : 0 ≤ (ji31)
    rotate_left
    ·rw [if_neg c32] at H
     exact absurd H (by simp)
    rw [if_pos c32] at H
    have c32b0 : decide (0 ≤ (ji31)) = true := decide_eq_true c32
    clear c32
    by_cases c33 : (ji31) < (x4_1.length : Int)
    rotate_left
    ·rw [if_neg c33] at H
     exact absurd H (by simp)
    rw [if_pos c33] at H
    have c33b0 : decide ((ji31) < (x4_1.length : Int)) = true := decide_eq_true c33
    clear c33
    obtain ⟨ji34, hji34⟩ : ∃ j_ : Int, (Int.tmod (rd l0_5 x5_1) 8) = j_ := ⟨_, rfl⟩
    replace H : (if 0 ≤ (ji34) then (selvedgeref18_Encode.l0 k1 (x4_1.set ((ji31) : Int).toNat (Go.bits .or .u8 (rd x4_1 (ji31)) (shl .u8 1 (ji34)))) (wrap64 (x5_1 + 1)) a0_0 a0_1 a0_2 a0_3 a0_4 l0_5 l0_6) else (none)) = some (r1, r2) := by first | (rw [hji34] at H; exact H) | (simp only [hji34] at H ⊢; exact H)
    by_cases c35 : 0 ≤ (ji34)
    rotate_left
    ·rw [if_neg c35] at H
     exact absurd H (by simp)
    rw [if_pos c35] at H
    have c35b0 := eq_true c35
    have c35b1 : decide (0 ≤ (ji34)) = true := decide_eq_true c35
    clear c35
    obtain ⟨ji36, hji36⟩ : ∃ j_ : Int, (shl .u8 1 (ji34)) = j_ := ⟨_, rfl⟩
    replace H : (selvedgeref18_Encode.l0 k1 (x4_1.set ((ji31) : Int).toNat (Go.bits .or .u8 (rd x4_1 (ji31)) (ji36))) (wrap64 (x5_1 + 1)) a0_0 a0_1 a0_2 a0_3 a0_4 l0_5 l0_6) = some (r1, r2) := by first | (rw [hji36] at H; exact H) | (simp only [hji36] at H ⊢; exact H)
    have hji36_ : (IntKind.u8.wrap (1 * 2 ^ min (ji34).toNat 8)) = ji36 := hji36
    have hji36z : (ji34) ≤ 8 → (IntKind.u8.wrap (1 * 2 ^ (ji34).toNat)) = ji36 := shl_small hji36
    have hji36u : (IntKind.u8.wrap (2 ^ min (ji34).toNat 8)) = ji36 := by have h_ := hji36_; rw [Int.one_mul] at h_; exact h_
    have hji36v : (ji34) ≤ 8 → (IntKind.u8.wrap (2 ^ (ji34).toNat)) = ji36 := fun hle_ => by have h_ := hji36z hle_; rw [Int.one_mul] at h_; exact h_
    obtain ⟨y122, hy122⟩ : ∃ y_ : List Int, y_ = (x4_1.set ((ji31) : Int).toNat (Go.bits .or .u8 (rd x4_1 (ji31)) (ji36))) := ⟨_, rfl⟩
    replace H : (selvedgeref18_Encode.l0 k1 y122 (wrap64 (x5_1 + 1)) a0_0 a0_1 a0_2 a0_3 a0_4 l0_5 l0_6) = some (r1, r2) := by first | (rw [hy122]; with_reducible exact H) | (have H2_ := (Option.bind_some _ _).symm.trans H; rw [hy122]; with_reducible exact H2_) | (have H2_ := (Option.bind_some _ _).symm.trans H; with_reducible exact H2_) | with_reducible exact H | (rw [hy122]; exact H) | exact H
    have Ny122 := Aside0.mk hy122
    clear hy122
    have H' := Aside0.mk H
    clear H
    obtain ⟨hcz38_0, hcz38_1, hcz38_2, hcz38_3, hcz38_4, hcz38_5, hcz38_6, hfz38_0, hfz38_1, hfz38_2, hfz38_3, hfz38_4, hfz38_5, hfz38_6⟩ := cf7 BK108
    try go_wp2
    have n0_ := Aside0.mk (Kd.R_drew HO_4.out)
    have n1_ := Aside0.mk (blk_drew BK108.out)
    have n2_ := Aside0.mk (below_drew1 HB.out)
    clear HO_4
    clear BK108
    clear HB
    have HO_4 := n0_
    have BK108 := n1_
    have HB := n2_
    clear n0_ n1_ n2_
    have p119 : 0 ≤ (x5_1 : Int) := of_decide_eq_true (by first | with_reducible assumption | assumption)
    have q119 : x5_1 < (l0_5.length : Int) := of_decide_eq_true (by first | with_reducible assumption | assumption)
    obtain ⟨ad119, e119, hx119_0⟩ := Kd.at_int HR0_5.out x5_1 p119 q119
    have hw119_0 := hx119_0
    cases e119
    replace hx119_0 := pw_cell_below HB.out hx119_0
    replace p119 := eq_true p119
    replace q119 := eq_true q119
    have p120 : 0 ≤ ((ji31) : Int) := of_decide_eq_true (by first | with_reducible assumption | assumption)
    have q120 : (ji31) < (x4_1.length : Int) := of_decide_eq_true (by first | with_reducible assumption | assumption)
    obtain ⟨ad120, e120, hx120_0⟩ := Kd.at_int (Kd.R_reads' HO_4.out).2.2 (ji31) p120 q120
    obtain rfl : (⟨go6, 0, none⟩ : Addr) = ad120 := (by injection e120)
    (first | simp only [add_plain] at hx120_0 | simp only [add_at] at hx120_0 | simp only [Addr.add, Nat.zero_add] at hx120_0 | skip)
    replace p120 := eq_true p120
    replace q120 := eq_true q120
    have p121 : 0 ≤ (x5_1 : Int) := of_decide_eq_true (by first | with_reducible assumption | assumption)
    have q121 : x5_1 < (l0_5.length : Int) := of_decide_eq_true (by first | with_reducible assumption | assumption)
    obtain ⟨ad121, e121, hx121_0⟩ := Kd.at_int HR0_5.out x5_1 p121 q121
    have hw121_0 := hx121_0
    obtain rfl : ad119 = ad121 := (by injection e121)
    replace hx121_0 := pw_cell_below HB.out hx121_0
    replace p121 := eq_true p121
    replace q121 := eq_true q121
    have p37 : 0 ≤ ((ji31) : Int) := of_decide_eq_true (by first | with_reducible assumption | assumption)
    have q37 : ((ji31) : Int) < ((x4_1.length : Int) : Int) := of_decide_eq_true (by first | with_reducible assumption | assumption)
    obtain ⟨hx37_0, hf37_0⟩ := Kd.R_celln 0 HO_4.out ((ji31) : Int) p37 q37
    replace p37 := eq_true p37
    replace q37 := eq_true q37
    have HP40 := Kd.R_putn HO_4.out ((ji31) : Int) (Go.bits .or .u8 (rd x4_1 (ji31)) (ji36))
    rw [← Ny122.out] at HP40
    have HQ40 := Aside0.mk HP40
    clear HP40
    refine start_ (n := 20) (S := fun w' => w'.cell? ⟨gb108, 0, none⟩ = some (.int .i64 a0_0) ∧ w'.cell? ⟨gb108, 1, none⟩ = some (.int .i64 a0_1) ∧ w'.cell? ⟨gb108, 2, none⟩ = some (.int .i64 a0_2) ∧ w'.cell? ⟨gb108, 3, none⟩ = some (.int .i64 a0_3) ∧ w'.cell? ⟨gb108, 4, none⟩ = some (.int .i64 a0_4) ∧ w'.cell? ⟨gb108, 5, none⟩ = some (.slice (some ad119) l0_5.length c0_5) ∧ w'.cell? ⟨gb108, 6, none⟩ = some (.slice A0_6 l0_6.length c0_6) ∧ w'.cell? (ad119.add (x5_1).toNat) = some (.int .i64 (rd l0_5 x5_1)) ∧ w'.cell? ⟨go6, ((ji31)).toNat, none⟩ = some (.int .u8 (rd x4_1 (ji31))) ∧ w'.cell? (ad119.add (x5_1).toNat) = some (.int .i64 (rd l0_5 x5_1))) (ds := [19]) #[false, false, false, false, false, false, false, false, false, false, false, false, false, false, false, false, false, false, false, false] (by kernel_rfl) rfl rfl ⟨(blk_cell BK108.out 0).trans rfl, (blk_cell BK108.out 1).trans rfl, (blk_cell BK108.out 2).trans rfl, (blk_cell BK108.out 3).trans rfl, (blk_cell BK108.out 4).trans rfl, (blk_cell BK108.out 5).trans rfl, (blk_cell BK108.out 6).trans rfl, (pw_cell_below HB.out hw119_0), hx120_0, (pw_cell_below HB.out hw121_0)⟩ (fun hHeld => ?_); refine with_tabW selvedgeref18_Encode.tab8 selvedgeref18_Encode.bits8 (fun HT_ HW_ => ?_)
    generalize wr.drew = w39 at HO_4 BK108 HB HQ40 hf37_0 hx119_0 hx120_0 hx121_0 hx37_0 hHeld ⊢
    refine pure_ (i := 0) (N := some 47) (v := ?_) (a' := ?_) (bA 20 1) rfl rfl (any_of HT_.out (by kernel_rfl)) (fun _ _ _ h => h) (Or.inl ⟨by rfl, ?_⟩) ?_ ?_
    rotate_left
    ·intro w'
     go_simp
     with_reducible rfl
    rotate_left
    ·simp only [Act.put, List.setIfInBounds_toArray, List.set_cons_zero, List.set_cons_succ, i64_w, i32_w]
     rfl
    refine pure_ (i := 1) (N := some 48) (v := ?_) (a' := ?_) (bA 20 3) rfl rfl (any_of HT_.out (by kernel_rfl)) (fun _ _ _ h => h) (Or.inl ⟨by rfl, ?_⟩) ?_ ?_
    rotate_left
    ·intro w'
     go_simp
     with_reducible rfl
    rotate_left
    ·simp only [Act.put, List.setIfInBounds_toArray, List.set_cons_zero, List.set_cons_succ, i64_w, i32_w]
     rfl
    refine pure_ (i := 3) (N := some 50) (v := ?_) (a' := ?_) (bA 20 11) rfl rfl (any_of HT_.out (by kernel_rfl)) (fun _ _ _ h => h) (Or.inl ⟨by rfl, ?_⟩) ?_ ?_
    rotate_left
    ·intro w'
     go_simp
     with_reducible rfl
    rotate_left
    ·simp only [Act.put, List.setIfInBounds_toArray, List.set_cons_zero, List.set_cons_succ, i64_w, i32_w]
     rfl
    refine pure_ (i := 10) (N := some 57) (v := ?_) (a' := ?_) (bA 20 1035) rfl rfl (any_of HT_.out (by kernel_rfl)) (fun _ _ _ h => h) (Or.inl ⟨by rfl, ?_⟩) ?_ ?_
    rotate_left
    ·intro w'
     go_simp
     with_reducible rfl
    rotate_left
    ·simp only [Act.put, List.setIfInBounds_toArray, List.set_cons_zero, List.set_cons_succ, i64_w, i32_w]
     rfl
    refine pure_ (i := 12) (N := some 59) (v := ?_) (a' := ?_) (bA 20 5131) rfl rfl (any_of HT_.out (by kernel_rfl)) (fun _ _ _ h => h) (Or.inl ⟨by rfl, ?_⟩) ?_ ?_
    rotate_left
    ·intro w'
     go_simp
     with_reducible rfl
    rotate_left
    ·simp only [Act.put, List.setIfInBounds_toArray, List.set_cons_zero, List.set_cons_succ, i64_w, i32_w]
     rfl
    refine take_ (i := 2) (N := some 49) (v := ?_) (a' := ?_) (bA 20 5135) rfl rfl (take_ofW HT_.out HW_.out (by kernel_rfl)) (fun _ _ _ h => h) (Or.inl ⟨by rfl, ?_⟩) hHeld ?_ ?_
    rotate_left
    ·rintro w' ⟨s0, s1, s2, s3, s4, s5, s6, s7, s8, s9⟩
     go_simp
     with_reducible rfl
    rotate_left
    ·simp only [Act.put, List.setIfInBounds_toArray, List.set_cons_zero, List.set_cons_succ, i64_w, i32_w]
     rfl
    refine pure_ (i := 4) (N := some 51) (v := ?_) (a' := ?_) (bA 20 5151) rfl rfl (any_of HT_.out (by kernel_rfl)) (fun _ _ _ h => h) (Or.inl ⟨by rfl, ?_⟩) ?_ ?_
    rotate_left
    ·intro w'
     go_simp
     with_reducible rfl
    rotate_left
    ·simp only [Act.put, List.setIfInBounds_toArray, List.set_cons_zero, List.set_cons_succ, i64_w, i32_w]
     rfl
    refine take_ (i := 5) (N := some 52) (v := ?_) (a' := ?_) (bA 20 5183) rfl rfl (take_ofW HT_.out HW_.out (by kernel_rfl)) (fun _ _ _ h => h) (Or.inl ⟨by rfl, ?_⟩) hHeld ?_ ?_
    rotate_left
    ·rintro w' ⟨s0, s1, s2, s3, s4, s5, s6, s7, s8, s9⟩
     go_simp
     with_reducible rfl
    rotate_left
    ·simp only [Act.put, List.setIfInBounds_toArray, List.set_cons_zero, List.set_cons_succ, i64_w, i32_w]
     rfl
    refine pure_ (i := 6) (N := some 53) (v := ?_) (a' := ?_) (bA 20 5247) rfl rfl (any_of HT_.out (by kernel_rfl)) (fun _ _ _ h => h) (Or.inl ⟨by rfl, ?_⟩) ?_ ?_
    rotate_left
    ·intro w'
     go_simp
     with_reducible rfl
    rotate_left
    ·simp only [Act.put, List.setIfInBounds_toArray, List.set_cons_zero, List.set_cons_succ, i64_w, i32_w]
     rfl
    refine pure_ (i := 7) (N := some 54) (v := ?_) (a' := ?_) (bA 20 5375) rfl rfl (any_of HT_.out (by kernel_rfl)) (fun _ _ _ h => h) (Or.inl ⟨by rfl, ?_⟩) ?_ ?_
    rotate_left
    ·intro w'
     go_simp
     with_reducible rfl
    rotate_left
    ·simp only [Act.put, List.setIfInBounds_toArray, List.set_cons_zero, List.set_cons_succ, i64_w, i32_w]
     rfl
    refine pure_ (i := 8) (N := some 55) (v := ?_) (a' := ?_) (bA 20 5631) rfl rfl (any_of HT_.out (by kernel_rfl)) (fun _ _ _ h => h) (Or.inl ⟨by rfl, ?_⟩) ?_ ?_
    rotate_left
    ·intro w'
     go_simp
     with_reducible rfl
    rotate_left
    ·simp only [Act.put, List.setIfInBounds_toArray, List.set_cons_zero, List.set_cons_succ, i64_w, i32_w]
     rfl
    refine take_ (i := 9) (N := some 56) (v := ?_) (a' := ?_) (bA 20 6143) rfl rfl (take_ofW HT_.out HW_.out (by kernel_rfl)) (fun _ _ _ h => h) (Or.inl ⟨by rfl, ?_⟩) hHeld ?_ ?_
    rotate_left
    ·rintro w' ⟨s0, s1, s2, s3, s4, s5, s6, s7, s8, s9⟩
     go_simp
     with_reducible rfl
    rotate_left
    ·simp only [Act.put, List.setIfInBounds_toArray, List.set_cons_zero, List.set_cons_succ, i64_w, i32_w]
     rfl
    refine take_ (i := 11) (N := some 58) (v := ?_) (a' := ?_) (bA 20 8191) rfl rfl (take_ofW HT_.out HW_.out (by kernel_rfl)) (fun _ _ _ h => h) (Or.inl ⟨by rfl, ?_⟩) hHeld ?_ ?_
    rotate_left
    ·rintro w' ⟨s0, s1, s2, s3, s4, s5, s6, s7, s8, s9⟩
     go_simp
     with_reducible rfl
    rotate_left
    ·simp only [Act.put, List.setIfInBounds_toArray, List.set_cons_zero, List.set_cons_succ, i64_w, i32_w]
     rfl
    refine pure_ (i := 13) (N := some 60) (v := ?_) (a' := ?_) (bA 20 16383) rfl rfl (any_of HT_.out (by kernel_rfl)) (fun _ _ _ h => h) (Or.inl ⟨by rfl, ?_⟩) ?_ ?_
    rotate_left
    ·intro w'
     go_simp
     with_reducible rfl
    rotate_left
    ·simp only [Act.put, List.setIfInBounds_toArray, List.set_cons_zero, List.set_cons_succ, i64_w, i32_w]
     rfl
    refine take_ (i := 14) (N := some 61) (v := ?_) (a' := ?_) (bA 20 32767) rfl rfl (take_ofW HT_.out HW_.out (by kernel_rfl)) (fun _ _ _ h => h) (Or.inl ⟨by rfl, ?_⟩) hHeld ?_ ?_
    rotate_left
    ·rintro w' ⟨s0, s1, s2, s3, s4, s5, s6, s7, s8, s9⟩
     go_simp
     with_reducible rfl
    rotate_left
    ·simp only [Act.put, List.setIfInBounds_toArray, List.set_cons_zero, List.set_cons_succ, i64_w, i32_w]
     rfl
    refine pure_ (i := 15) (N := some 62) (v := ?_) (a' := ?_) (bA 20 65535) rfl rfl (any_of HT_.out (by kernel_rfl)) (fun _ _ _ h => h) (Or.inl ⟨by rfl, ?_⟩) ?_ ?_
    rotate_left
    ·intro w'
     go_simp
     with_reducible rfl
    rotate_left
    ·simp only [Act.put, List.setIfInBounds_toArray, List.set_cons_zero, List.set_cons_succ, i64_w, i32_w]
     rfl
    refine pure_ (i := 16) (N := some 63) (v := ?_) (a' := ?_) (bA 20 131071) rfl rfl (any_of HT_.out (by kernel_rfl)) (fun _ _ _ h => h) (Or.inl ⟨by rfl, ?_⟩) ?_ ?_
    rotate_left
    ·intro w'
     go_simp
     with_reducible rfl
    rotate_left
    ·simp only [Act.put, List.setIfInBounds_toArray, List.set_cons_zero, List.set_cons_succ, i64_w, i32_w]
     rfl
    refine pure_ (i := 17) (N := some 64) (v := ?_) (a' := ?_) (bA 20 262143) rfl rfl (any_of HT_.out (by kernel_rfl)) (fun _ _ _ h => h) (Or.inl ⟨by rfl, ?_⟩) ?_ ?_
    rotate_left
    ·intro w'
     go_simp
     with_reducible rfl
    rotate_left
    ·simp only [Act.put, List.setIfInBounds_toArray, List.set_cons_zero, List.set_cons_succ, i64_w, i32_w]
     rfl
    refine pure_ (i := 18) (N := some 65) (v := ?_) (a' := ?_) (bA 20 524287) rfl rfl (any_of HT_.out (by kernel_rfl)) (fun _ _ _ h => h) (Or.inl ⟨by rfl, ?_⟩) ?_ ?_
    rotate_left
    ·intro w'
     go_simp
     with_reducible rfl
    rotate_left
    ·simp only [Act.put, List.setIfInBounds_toArray, List.set_cons_zero, List.set_cons_succ, i64_w, i32_w]
     rfl
    refine last_ (i := 19) (N := none) (bA 20 1048575) rfl rfl (one_of HT_.out (by kernel_rfl)) (by decide) (fun K hK => ?_)
    refine skip_ (w1 := ?_) (by rfl) rfl ?_ ?_
    rotate_left
    ·go_simp
     rfl
    refine hK.out _ _ ?_
    clear hK K
    refine done_ (done_of HT_.out (by kernel_rfl)) ?_
    try go_wp2
    (try simp only [← hl4_1])
    go_roundg k1
    case measure => have := HK1.out; omega
    case rel => exact ⟨(y122), (wrap64 (x5_1 + 1)), (by first | rfl | (simp; done) | (simp [*]; done)), H', ⟨by have := HK1.out; omega⟩, ⟨by (try simp only [hl4_1]); (with_reducible repeat (first | apply Kd.R_alloc | apply Kd.R_drewN | apply Kd.R_drew)); exact HQ40.out⟩, ⟨by (try simp only [hl4_1]); (with_reducible repeat (first | refine blk_drewN ?_ _ | refine blk_drew ?_ | refine blk_alloc ?_ _)); refine blk_far ?_ (by have h_ := Kd.R_ne HO_4.out BK108.out (by decide); intro e_; exact h_ (by rw [e_]; rfl)) _; (with_reducible repeat (first | refine blk_drewN ?_ _ | refine blk_drew ?_ | refine blk_alloc ?_ _)); exact BK108.out⟩, ⟨bs HB (by simp [ag, GB6.out, GE108.out])⟩⟩
   rw [if_neg c29] at H
   have c29b0 : decide (x5_1 < (l0_5.length : Int)) = false := decide_eq_false c29
   clear c29
   have H' := Aside0.mk H
   clear H
   obtain ⟨hcz41_0, hcz41_1, hcz41_2, hcz41_3, hcz41_4, hcz41_5, hcz41_6, hfz41_0, hfz41_1, hfz41_2, hfz41_3, hfz41_4, hfz41_5, hfz41_6⟩ := cf7 BK108
   go_wp2
   go_loopg [6] k1 (fun kq v6 w' => ∃ (x4_2 : List Int) (x6_2 : Int), v6 = .int .i64 x6_2 ∧ Aside0 (selvedgeref18_Encode.l1 kq x4_2 x6_2 a0_0 a0_1 a0_2 a0_3 a0_4 l0_5 l0_6 = some (r1, r2)) ∧ Aside0 (kq ≤ k1) ∧ Aside0 (Kd.R (Kd.int .u8) 5 w' w.heap.size (fun _ => True) (.slice (some ⟨go6, 0, none⟩) x4_1.length co6) x4_2) ∧ Aside0 (w'.heap[gb108]? = some (.cells #[.int .i64 a0_0, .int .i64 a0_1, .int .i64 a0_2, .int .i64 a0_3, .int .i64 a0_4, (.slice A0_5 l0_5.length c0_5), (.slice A0_6 l0_6.length c0_6)] 42 (0, 0))) ∧ Aside0 (Below w.heap.size w w'))
   case atStart => exact ⟨(x4_1), (0), (by first | rfl | (simp; done) | (simp [*]; done)), H', ⟨Nat.le_refl _⟩, ⟨by (try simp only [hl4_1]); (with_reducible repeat (first | apply Kd.R_alloc | apply Kd.R_drewN | apply Kd.R_drew)); exact HO_4.out⟩, ⟨by (try simp only [hl4_1]); (with_reducible repeat (first | refine blk_drewN ?_ _ | refine blk_drew ?_ | refine blk_alloc ?_ _)); exact BK108.out⟩, ⟨bs HB (by simp [ag, GE108.out])⟩⟩
   case round =>
    clear H'
    try clear c1
    try clear p1
    try clear q1
    try clear hx1
    try clear qi1
    try clear hf1
    try clear c2
    try clear p2
    try clear c3
    try clear p3
    try clear q3
    try clear hx3
    try clear hf3
    try clear c4
    try clear c4b0
    try clear c4b1
    try clear c5
    try clear c5b0
    try clear c5b1
    try clear p6
    try clear q6
    try clear hx6
    try clear qi6
    try clear hf6
    try clear c7
    try clear c7b0
    try clear c7b1
    try clear p8
    try clear q8
    try clear hx8
    try clear qi8
    try clear hf8
    try clear c9
    try clear c9b0
    try clear c9b1
    try clear p10
    try clear q10
    try clear hx10
    try clear qi10
    try clear hf10
    try clear c11
    try clear c11b0
    try clear c11b1
    try clear p11
    try clear q11
    try clear hx11
    try clear p12
    try clear q12
    try clear hx12
    try clear qi12
    try clear hf12
    try clear c13
    try clear c13b0
    try clear c13b1
    try clear p14
    try clear q14
    try clear hx14
    try clear qi14
    try clear hf14
    try clear c15
    try clear c15b0
    try clear c15b1
    try clear p16
    try clear q16
    try clear hx16
    try clear qi16
    try clear hf16
    try clear c29
    try clear c29b0
    try clear c30
    try clear c30b0
    try clear c32
    try clear c32b0
    try clear c33
    try clear c33b0
    try clear c35
    try clear c35b0
    try clear c35b1
    try clear p37
    try clear q37
    try clear hx37
    try clear hf37
    try clear hcz18_0
    try clear hcz18_1
    try clear hcz18_2
    try clear hcz18_3
    try clear hcz18_4
    try clear hcz18_5
    try clear hcz18_6
    try clear hcz38_0
    try clear hcz38_1
    try clear hcz38_2
    try clear hcz38_3
    try clear hcz38_4
    try clear hcz38_5
    try clear hcz38_6
    try clear hcz41_0
    try clear hcz41_1
    try clear hcz41_2
    try clear hcz41_3
    try clear hcz41_4
    try clear hcz41_5
    try clear hcz41_6
    try clear hfz18_0
    try clear hfz18_1
    try clear hfz18_2
    try clear hfz18_3
    try clear hfz18_4
    try clear hfz18_5
    try clear hfz18_6
    try clear hfz38_0
    try clear hfz38_1
    try clear hfz38_2
    try clear hfz38_3
    try clear hfz38_4
    try clear hfz38_5
    try clear hfz38_6
    try clear hfz41_0
    try clear hfz41_1
    try clear hfz41_2
    try clear hfz41_3
    try clear hfz41_4
    try clear hfz41_5
    try clear hfz41_6
    try clear hx10_0
    try clear hx119_0
    try clear hx120_0
    try clear hx121_0
    try clear hx12_0
    try clear hx14_0
    try clear hx16_0
    try clear hx37_0
    try clear hx6_0
    try clear hx8_0
    try clear p1
    try clear p10
    try clear p119
    try clear p12
    try clear p120
    try clear p121
    try clear p14
    try clear p16
    try clear p2
    try clear p37
    try clear p6
    try clear p8
    try clear q1
    try clear q10
    try clear q119
    try clear q12
    try clear q120
    try clear q121
    try clear q14
    try clear q16
    try clear q37
    try clear q6
    try clear q8
    obtain ⟨x4_2, x6_2, rfl, HA, HK2, HO_4, BK108, HB⟩ := hrel
    have hl4_2 := (Kd.R_reads' HO_4.out).1
    rw [hl4_2] at HO_4
    (try simp only [hl4_2])
    (try simp only [hl4_2] at BK108)
    cases gk with
    | zero => exact absurd HA.out (by simp [selvedgeref18_Encode.l1])
    | succ k2 =>
     have H := HA.out
     clear HA
     simp only [selvedgeref18_Encode.l1] at H
     by_cases c42 : x6_2 < (l0_6.length : Int)
     ·rw [if_pos c42] at H
      have c42b0 : decide (x6_2 < (l0_6.length : Int)) = true := decide_eq_true c42
      clear c42
      by_cases c43 : 0 ≤ x6_2
      rotate_left
      ·rw [if_neg c43] at H
       exact absurd H (by simp)
      rw [if_pos c43] at H
      have c43b0 : decide (0 ≤ x6_2) = true := decide_eq_true c43
      clear c43
      obtain ⟨ji44, hji44⟩ : ∃ j_ : Int, (wrap64 (14 + (wrap64 (Int.tdiv (rd l0_6 x6_2) 8)))) = j_ := ⟨_, rfl⟩
      replace H : (if 0 ≤ (ji44) then (if (ji44) < (x4_2.length : Int) then (if 0 ≤ (Int.tmod (rd l0_6 x6_2) 8) then (selvedgeref18_Encode.l1 k2 (x4_2.set ((ji44) : Int).toNat (Go.bits .or .u8 (rd x4_2 (ji44)) (shl .u8 1 (Int.tmod (rd l0_6 x6_2) 8)))) (wrap64 (x6_2 + 1)) a0_0 a0_1 a0_2 a0_3 a0_4 l0_5 l0_6) else (none)) else (none)) else (none)) = some (r1, r2) := by first | (rw [hji44] at H; exact H) | (simp only [hji44] at H ⊢; exact H)
      have hji44w : (IntKind.i64.wrap (14 + (wrap64 (Int.tdiv (rd l0_6 x6_2) 8)))) = ji44 := (i64_w _).trans hji44
      by_cases c45 : 0 ≤ (ji44)
      rotate_left
      ·rw [if_neg c45] at H
       exact absurd H (by simp)
      rw [if_pos c45] at H
      have c45b0 : decide (0 ≤ (ji44)) = true := decide_eq_true c45
      clear c45
      by_cases c46 : (ji44) < (x4_2.length : Int)
      rotate_left
      ·rw [if_neg c46] at H
       exact absurd H (by simp)
      rw [if_pos c46] at H
      have c46b0 : decide ((ji44) < (x4_2.length : Int)) = true := decide_eq_true c46
      clear c46
      obtain ⟨ji47, hji47⟩ : ∃ j_ : Int, (Int.tmod (rd l0_6 x6_2) 8) = j_ := ⟨_, rfl⟩
      replace H : (if 0 ≤ (ji47) then (selvedgeref18_Encode.l1 k2 (x4_2.set ((ji44) : Int).toNat (Go.bits .or .u8 (rd x4_2 (ji44)) (shl .u8 1 (ji47)))) (wrap64 (x6_2 + 1)) a0_0 a0_1 a0_2 a0_3 a0_4 l0_5 l0_6) else (none)) = some (r1, r2) := by first | (rw [hji47] at H; exact H) | (simp only [hji47] at H ⊢; exact H)
      by_cases c48 : 0 ≤ (ji47)
      rotate_left
      ·rw [if_neg c48] at H
       exact absurd H (by simp)
      rw [if_pos c48] at H
      have c48b0 := eq_true c48
      have c48b1 : decide (0 ≤ (ji47)) = true := decide_eq_true c48
      clear c48
      obtain ⟨ji49, hji49⟩ : ∃ j_ : Int, (shl .u8 1 (ji47)) = j_ := ⟨_, rfl⟩
      replace H : (selvedgeref18_Encode.l1 k2 (x4_2.set ((ji44) : Int).toNat (Go.bits .or .u8 (rd x4_2 (ji44)) (ji49))) (wrap64 (x6_2 + 1)) a0_0 a0_1 a0_2 a0_3 a0_4 l0_5 l0_6) = some (r1, r2) := by first | (rw [hji49] at H; exact H) | (simp only [hji49] at H ⊢; exact H)
      have hji49_ : (IntKind.u8.wrap (1 * 2 ^ min (ji47).toNat 8)) = ji49 := hji49
      have hji49z : (ji47) ≤ 8 → (IntKind.u8.wrap (1 * 2 ^ (ji47).toNat)) = ji49 := shl_small hji49
      have hji49u : (IntKind.u8.wrap (2 ^ min (ji47).toNat 8)) = ji49 := by have h_ := hji49_; rw [Int.one_mul] at h_; exact h_
      have hji49v : (ji47) ≤ 8 → (IntKind.u8.wrap (2 ^ (ji47).toNat)) = ji49 := fun hle_ => by have h_ := hji49z hle_; rw [Int.one_mul] at h_; exact h_
      obtain ⟨y126, hy126⟩ : ∃ y_ : List Int, y_ = (x4_2.set ((ji44) : Int).toNat (Go.bits .or .u8 (rd x4_2 (ji44)) (ji49))) := ⟨_, rfl⟩
      replace H : (selvedgeref18_Encode.l1 k2 y126 (wrap64 (x6_2 + 1)) a0_0 a0_1 a0_2 a0_3 a0_4 l0_5 l0_6) = some (r1, r2) := by first | (rw [hy126]; with_reducible exact H) | (have H2_ := (Option.bind_some _ _).symm.trans H; rw [hy126]; with_reducible exact H2_) | (have H2_ := (Option.bind_some _ _).symm.trans H; with_reducible exact H2_) | with_reducible exact H | (rw [hy126]; exact H) | exact H
      have Ny126 := Aside0.mk hy126
      clear hy126
      have H' := Aside0.mk H
      clear H
      obtain ⟨hcz51_0, hcz51_1, hcz51_2, hcz51_3, hcz51_4, hcz51_5, hcz51_6, hfz51_0, hfz51_1, hfz51_2, hfz51_3, hfz51_4, hfz51_5, hfz51_6⟩ := cf7 BK108
      try go_wp2
      have n0_ := Aside0.mk (Kd.R_drew HO_4.out)
      have n1_ := Aside0.mk (blk_drew BK108.out)
      have n2_ := Aside0.mk (below_drew1 HB.out)
      clear HO_4
      clear BK108
      clear HB
      have HO_4 := n0_
      have BK108 := n1_
      have HB := n2_
      clear n0_ n1_ n2_
      have p123 : 0 ≤ (x6_2 : Int) := of_decide_eq_true (by first | with_reducible assumption | assumption)
      have q123 : x6_2 < (l0_6.length : Int) := of_decide_eq_true (by first | with_reducible assumption | assumption)
      obtain ⟨ad123, e123, hx123_0⟩ := Kd.at_int HR0_6.out x6_2 p123 q123
      have hw123_0 := hx123_0
      cases e123
      replace hx123_0 := pw_cell_below HB.out hx123_0
      replace p123 := eq_true p123
      replace q123 := eq_true q123
      have p124 : 0 ≤ ((ji44) : Int) := of_decide_eq_true (by first | with_reducible assumption | assumption)
      have q124 : (ji44) < (x4_2.length : Int) := of_decide_eq_true (by first | with_reducible assumption | assumption)
      obtain ⟨ad124, e124, hx124_0⟩ := Kd.at_int (Kd.R_reads' HO_4.out).2.2 (ji44) p124 q124
      obtain rfl : (⟨go6, 0, none⟩ : Addr) = ad124 := (by injection e124)
      (first | simp only [add_plain] at hx124_0 | simp only [add_at] at hx124_0 | simp only [Addr.add, Nat.zero_add] at hx124_0 | skip)
      replace p124 := eq_true p124
      replace q124 := eq_true q124
      have p125 : 0 ≤ (x6_2 : Int) := of_decide_eq_true (by first | with_reducible assumption | assumption)
      have q125 : x6_2 < (l0_6.length : Int) := of_decide_eq_true (by first | with_reducible assumption | assumption)
      obtain ⟨ad125, e125, hx125_0⟩ := Kd.at_int HR0_6.out x6_2 p125 q125
      have hw125_0 := hx125_0
      obtain rfl : ad123 = ad125 := (by injection e125)
      replace hx125_0 := pw_cell_below HB.out hx125_0
      replace p125 := eq_true p125
      replace q125 := eq_true q125
      have p50 : 0 ≤ ((ji44) : Int) := of_decide_eq_true (by first | with_reducible assumption | assumption)
      have q50 : ((ji44) : Int) < ((x4_2.length : Int) : Int) := of_decide_eq_true (by first | with_reducible assumption | assumption)
      obtain ⟨hx50_0, hf50_0⟩ := Kd.R_celln 0 HO_4.out ((ji44) : Int) p50 q50
      replace p50 := eq_true p50
      replace q50 := eq_true q50
      have HP53 := Kd.R_putn HO_4.out ((ji44) : Int) (Go.bits .or .u8 (rd x4_2 (ji44)) (ji49))
      rw [← Ny126.out] at HP53
      have HQ53 := Aside0.mk HP53
      clear HP53
      refine start_ (n := 20) (S := fun w' => w'.cell? ⟨gb108, 0, none⟩ = some (.int .i64 a0_0) ∧ w'.cell? ⟨gb108, 1, none⟩ = some (.int .i64 a0_1) ∧ w'.cell? ⟨gb108, 2, none⟩ = some (.int .i64 a0_2) ∧ w'.cell? ⟨gb108, 3, none⟩ = some (.int .i64 a0_3) ∧ w'.cell? ⟨gb108, 4, none⟩ = some (.int .i64 a0_4) ∧ w'.cell? ⟨gb108, 5, none⟩ = some (.slice A0_5 l0_5.length c0_5) ∧ w'.cell? ⟨gb108, 6, none⟩ = some (.slice (some ad123) l0_6.length c0_6) ∧ w'.cell? (ad123.add (x6_2).toNat) = some (.int .i64 (rd l0_6 x6_2)) ∧ w'.cell? ⟨go6, ((ji44)).toNat, none⟩ = some (.int .u8 (rd x4_2 (ji44))) ∧ w'.cell? (ad123.add (x6_2).toNat) = some (.int .i64 (rd l0_6 x6_2))) (ds := [19]) #[false, false, false, false, false, false, false, false, false, false, false, false, false, false, false, false, false, false, false, false] (by kernel_rfl) rfl rfl ⟨(blk_cell BK108.out 0).trans rfl, (blk_cell BK108.out 1).trans rfl, (blk_cell BK108.out 2).trans rfl, (blk_cell BK108.out 3).trans rfl, (blk_cell BK108.out 4).trans rfl, (blk_cell BK108.out 5).trans rfl, (blk_cell BK108.out 6).trans rfl, (pw_cell_below HB.out hw123_0), hx124_0, (pw_cell_below HB.out hw125_0)⟩ (fun hHeld => ?_); refine with_tabW selvedgeref18_Encode.tab12 selvedgeref18_Encode.bits12 (fun HT_ HW_ => ?_)
      generalize wr.drew = w52 at HO_4 BK108 HB HQ53 hf50_0 hx123_0 hx124_0 hx125_0 hx50_0 hHeld ⊢
      refine pure_ (i := 0) (N := some 73) (v := ?_) (a' := ?_) (bA 20 1) rfl rfl (any_of HT_.out (by kernel_rfl)) (fun _ _ _ h => h) (Or.inl ⟨by rfl, ?_⟩) ?_ ?_
      rotate_left
      ·intro w'
       go_simp
       with_reducible rfl
      rotate_left
      ·simp only [Act.put, List.setIfInBounds_toArray, List.set_cons_zero, List.set_cons_succ, i64_w, i32_w]
       rfl
      refine pure_ (i := 1) (N := some 74) (v := ?_) (a' := ?_) (bA 20 3) rfl rfl (any_of HT_.out (by kernel_rfl)) (fun _ _ _ h => h) (Or.inl ⟨by rfl, ?_⟩) ?_ ?_
      rotate_left
      ·intro w'
       go_simp
       with_reducible rfl
      rotate_left
      ·simp only [Act.put, List.setIfInBounds_toArray, List.set_cons_zero, List.set_cons_succ, i64_w, i32_w]
       rfl
      refine pure_ (i := 3) (N := some 76) (v := ?_) (a' := ?_) (bA 20 11) rfl rfl (any_of HT_.out (by kernel_rfl)) (fun _ _ _ h => h) (Or.inl ⟨by rfl, ?_⟩) ?_ ?_
      rotate_left
      ·intro w'
       go_simp
       with_reducible rfl
      rotate_left
      ·simp only [Act.put, List.setIfInBounds_toArray, List.set_cons_zero, List.set_cons_succ, i64_w, i32_w]
       rfl
      refine pure_ (i := 10) (N := some 83) (v := ?_) (a' := ?_) (bA 20 1035) rfl rfl (any_of HT_.out (by kernel_rfl)) (fun _ _ _ h => h) (Or.inl ⟨by rfl, ?_⟩) ?_ ?_
      rotate_left
      ·intro w'
       go_simp
       with_reducible rfl
      rotate_left
      ·simp only [Act.put, List.setIfInBounds_toArray, List.set_cons_zero, List.set_cons_succ, i64_w, i32_w]
       rfl
      refine pure_ (i := 12) (N := some 85) (v := ?_) (a' := ?_) (bA 20 5131) rfl rfl (any_of HT_.out (by kernel_rfl)) (fun _ _ _ h => h) (Or.inl ⟨by rfl, ?_⟩) ?_ ?_
      rotate_left
      ·intro w'
       go_simp
       with_reducible rfl
      rotate_left
      ·simp only [Act.put, List.setIfInBounds_toArray, List.set_cons_zero, List.set_cons_succ, i64_w, i32_w]
       rfl
      refine take_ (i := 2) (N := some 75) (v := ?_) (a' := ?_) (bA 20 5135) rfl rfl (take_ofW HT_.out HW_.out (by kernel_rfl)) (fun _ _ _ h => h) (Or.inl ⟨by rfl, ?_⟩) hHeld ?_ ?_
      rotate_left
      ·rintro w' ⟨s0, s1, s2, s3, s4, s5, s6, s7, s8, s9⟩
       go_simp
       with_reducible rfl
      rotate_left
      ·simp only [Act.put, List.setIfInBounds_toArray, List.set_cons_zero, List.set_cons_succ, i64_w, i32_w]
       rfl
      refine pure_ (i := 4) (N := some 77) (v := ?_) (a' := ?_) (bA 20 5151) rfl rfl (any_of HT_.out (by kernel_rfl)) (fun _ _ _ h => h) (Or.inl ⟨by rfl, ?_⟩) ?_ ?_
      rotate_left
      ·intro w'
       go_simp
       with_reducible rfl
      rotate_left
      ·simp only [Act.put, List.setIfInBounds_toArray, List.set_cons_zero, List.set_cons_succ, i64_w, i32_w]
       rfl
      refine take_ (i := 5) (N := some 78) (v := ?_) (a' := ?_) (bA 20 5183) rfl rfl (take_ofW HT_.out HW_.out (by kernel_rfl)) (fun _ _ _ h => h) (Or.inl ⟨by rfl, ?_⟩) hHeld ?_ ?_
      rotate_left
      ·rintro w' ⟨s0, s1, s2, s3, s4, s5, s6, s7, s8, s9⟩
       go_simp
       with_reducible rfl
      rotate_left
      ·simp only [Act.put, List.setIfInBounds_toArray, List.set_cons_zero, List.set_cons_succ, i64_w, i32_w]
       rfl
      refine pure_ (i := 6) (N := some 79) (v := ?_) (a' := ?_) (bA 20 5247) rfl rfl (any_of HT_.out (by kernel_rfl)) (fun _ _ _ h => h) (Or.inl ⟨by rfl, ?_⟩) ?_ ?_
      rotate_left
      ·intro w'
       go_simp
       with_reducible rfl
      rotate_left
      ·simp only [Act.put, List.setIfInBounds_toArray, List.set_cons_zero, List.set_cons_succ, i64_w, i32_w]
       rfl
      refine pure_ (i := 7) (N := some 80) (v := ?_) (a' := ?_) (bA 20 5375) rfl rfl (any_of HT_.out (by kernel_rfl)) (fun _ _ _ h => h) (Or.inl ⟨by rfl, ?_⟩) ?_ ?_
      rotate_left
      ·intro w'
       go_simp
       with_reducible rfl
      rotate_left
      ·simp only [Act.put, List.setIfInBounds_toArray, List.set_cons_zero, List.set_cons_succ, i64_w, i32_w]
       rfl
      refine pure_ (i := 8) (N := some 81) (v := ?_) (a' := ?_) (bA 20 5631) rfl rfl (any_of HT_.out (by kernel_rfl)) (fun _ _ _ h => h) (Or.inl ⟨by rfl, ?_⟩) ?_ ?_
      rotate_left
      ·intro w'
       go_simp
       with_reducible rfl
      rotate_left
      ·simp only [Act.put, List.setIfInBounds_toArray, List.set_cons_zero, List.set_cons_succ, i64_w, i32_w]
       rfl
      refine take_ (i := 9) (N := some 82) (v := ?_) (a' := ?_) (bA 20 6143) rfl rfl (take_ofW HT_.out HW_.out (by kernel_rfl)) (fun _ _ _ h => h) (Or.inl ⟨by rfl, ?_⟩) hHeld ?_ ?_
      rotate_left
      ·rintro w' ⟨s0, s1, s2, s3, s4, s5, s6, s7, s8, s9⟩
       go_simp
       with_reducible rfl
      rotate_left
      ·simp only [Act.put, List.setIfInBounds_toArray, List.set_cons_zero, List.set_cons_succ, i64_w, i32_w]
       rfl
      refine take_ (i := 11) (N := some 84) (v := ?_) (a' := ?_) (bA 20 8191) rfl rfl (take_ofW HT_.out HW_.out (by kernel_rfl)) (fun _ _ _ h => h) (Or.inl ⟨by rfl, ?_⟩) hHeld ?_ ?_
      rotate_left
      ·rintro w' ⟨s0, s1, s2, s3, s4, s5, s6, s7, s8, s9⟩
       go_simp
       with_reducible rfl
      rotate_left
      ·simp only [Act.put, List.setIfInBounds_toArray, List.set_cons_zero, List.set_cons_succ, i64_w, i32_w]
       rfl
      refine pure_ (i := 13) (N := some 86) (v := ?_) (a' := ?_) (bA 20 16383) rfl rfl (any_of HT_.out (by kernel_rfl)) (fun _ _ _ h => h) (Or.inl ⟨by rfl, ?_⟩) ?_ ?_
      rotate_left
      ·intro w'
       go_simp
       with_reducible rfl
      rotate_left
      ·simp only [Act.put, List.setIfInBounds_toArray, List.set_cons_zero, List.set_cons_succ, i64_w, i32_w]
       rfl
      refine take_ (i := 14) (N := some 87) (v := ?_) (a' := ?_) (bA 20 32767) rfl rfl (take_ofW HT_.out HW_.out (by kernel_rfl)) (fun _ _ _ h => h) (Or.inl ⟨by rfl, ?_⟩) hHeld ?_ ?_
      rotate_left
      ·rintro w' ⟨s0, s1, s2, s3, s4, s5, s6, s7, s8, s9⟩
       go_simp
       with_reducible rfl
      rotate_left
      ·simp only [Act.put, List.setIfInBounds_toArray, List.set_cons_zero, List.set_cons_succ, i64_w, i32_w]
       rfl
      refine pure_ (i := 15) (N := some 88) (v := ?_) (a' := ?_) (bA 20 65535) rfl rfl (any_of HT_.out (by kernel_rfl)) (fun _ _ _ h => h) (Or.inl ⟨by rfl, ?_⟩) ?_ ?_
      rotate_left
      ·intro w'
       go_simp
       with_reducible rfl
      rotate_left
      ·simp only [Act.put, List.setIfInBounds_toArray, List.set_cons_zero, List.set_cons_succ, i64_w, i32_w]
       rfl
      refine pure_ (i := 16) (N := some 89) (v := ?_) (a' := ?_) (bA 20 131071) rfl rfl (any_of HT_.out (by kernel_rfl)) (fun _ _ _ h => h) (Or.inl ⟨by rfl, ?_⟩) ?_ ?_
      rotate_left
      ·intro w'
       go_simp
       with_reducible rfl
      rotate_left
      ·simp only [Act.put, List.setIfInBounds_toArray, List.set_cons_zero, List.set_cons_succ, i64_w, i32_w]
       rfl
      refine pure_ (i := 17) (N := some 90) (v := ?_) (a' := ?_) (bA 20 262143) rfl rfl (any_of HT_.out (by kernel_rfl)) (fun _ _ _ h => h) (Or.inl ⟨by rfl, ?_⟩) ?_ ?_
      rotate_left
      ·intro w'
       go_simp
       with_reducible rfl
      rotate_left
      ·simp only [Act.put, List.setIfInBounds_toArray, List.set_cons_zero, List.set_cons_succ, i64_w, i32_w]
       rfl
      refine pure_ (i := 18) (N := some 91) (v := ?_) (a' := ?_) (bA 20 524287) rfl rfl (any_of HT_.out (by kernel_rfl)) (fun _ _ _ h => h) (Or.inl ⟨by rfl, ?_⟩) ?_ ?_
      rotate_left
      ·intro w'
       go_simp
       with_reducible rfl
      rotate_left
      ·simp only [Act.put, List.setIfInBounds_toArray, List.set_cons_zero, List.set_cons_succ, i64_w, i32_w]
       rfl
      refine last_ (i := 19) (N := none) (bA 20 1048575) rfl rfl (one_of HT_.out (by kernel_rfl)) (by decide) (fun K hK => ?_)
      refine skip_ (w1 := ?_) (by rfl) rfl ?_ ?_
      rotate_left
      ·go_simp
       rfl
      refine hK.out _ _ ?_
      clear hK K
      refine done_ (done_of HT_.out (by kernel_rfl)) ?_
      try go_wp2
      (try simp only [← hl4_2])
      go_roundg k2
      case measure => have := HK1.out; have := HK2.out; omega
      case rel => exact ⟨(y126), (wrap64 (x6_2 + 1)), (by first | rfl | (simp; done) | (simp [*]; done)), H', ⟨by have := HK1.out; have := HK2.out; omega⟩, ⟨by (try simp only [hl4_1]); (try simp only [hl4_2]); (with_reducible repeat (first | apply Kd.R_alloc | apply Kd.R_drewN | apply Kd.R_drew)); exact HQ53.out⟩, ⟨by (try simp only [hl4_1]); (try simp only [hl4_2]); (with_reducible repeat (first | refine blk_drewN ?_ _ | refine blk_drew ?_ | refine blk_alloc ?_ _)); refine blk_far ?_ (by have h_ := Kd.R_ne HO_4.out BK108.out (by decide); intro e_; exact h_ (by rw [e_]; rfl)) _; (with_reducible repeat (first | refine blk_drewN ?_ _ | refine blk_drew ?_ | refine blk_alloc ?_ _)); exact BK108.out⟩, ⟨bs HB (by simp [ag, GB6.out, GE108.out])⟩⟩
     rw [if_neg c42] at H
     have c42b0 : decide (x6_2 < (l0_6.length : Int)) = false := decide_eq_false c42
     clear c42
     have H' := Aside0.mk H
     clear H
     obtain ⟨hcz54_0, hcz54_1, hcz54_2, hcz54_3, hcz54_4, hcz54_5, hcz54_6, hfz54_0, hfz54_1, hfz54_2, hfz54_3, hfz54_4, hfz54_5, hfz54_6⟩ := cf7 BK108
     go_wp2
     go_loopg [7, 8] k2 (fun kq v7 v8 w' => ∃ (x7_3 : Int) (x8_3 : Int), v7 = .int .u8 x7_3 ∧ v8 = .int .i64 x8_3 ∧ Aside0 (selvedgeref18_Encode.l2 kq x4_2 x7_3 x8_3 = some (r1, r2)) ∧ Aside0 (kq ≤ k2) ∧ Aside0 (Kd.R (Kd.int .u8) 5 w' w.heap.size (fun _ => True) (.slice (some ⟨go6, 0, none⟩) x4_2.length co6) x4_2) ∧ Aside0 (w'.heap[gb108]? = some (.cells #[.int .i64 a0_0, .int .i64 a0_1, .int .i64 a0_2, .int .i64 a0_3, .int .i64 a0_4, (.slice A0_5 l0_5.length c0_5), (.slice A0_6 l0_6.length c0_6)] 42 (0, 0))) ∧ Aside0 (Below w.heap.size w w'))
     case atStart => exact ⟨(0), (0), (by first | rfl | (simp; done) | (simp [*]; done)), (by first | rfl | (simp; done) | (simp [*]; done)), H', ⟨Nat.le_refl _⟩, ⟨by (try simp only [hl4_1]); (try simp only [hl4_2]); (with_reducible repeat (first | apply Kd.R_alloc | apply Kd.R_drewN | apply Kd.R_drew)); exact HO_4.out⟩, ⟨by (try simp only [hl4_1]); (try simp only [hl4_2]); (with_reducible repeat (first | refine blk_drewN ?_ _ | refine blk_drew ?_ | refine blk_alloc ?_ _)); exact BK108.out⟩, ⟨bs HB (by simp [ag, GE108.out])⟩⟩
     case round =>
      clear H'
      try clear c1
      try clear p1
      try clear q1
      try clear hx1
      try clear qi1
      try clear hf1
      try clear c2
      try clear p2
      try clear c3
      try clear p3
      try clear q3
      try clear hx3
      try clear hf3
      try clear c4
      try clear c4b0
      try clear c4b1
      try clear c5
      try clear c5b0
      try clear c5b1
      try clear p5
      try clear q5
      try clear hx5
      try clear hf5
      try clear p6
      try clear q6
      try clear hx6
      try clear qi6
      try clear hf6
      try clear c7
      try clear c7b0
      try clear c7b1
      try clear p8
      try clear q8
      try clear hx8
      try clear qi8
      try clear hf8
      try clear c9
      try clear c9b0
      try clear c9b1
      try clear p10
      try clear q10
      try clear hx10
      try clear qi10
      try clear hf10
      try clear c11
      try clear c11b0
      try clear c11b1
      try clear p11
      try clear q11
      try clear hx11
      try clear p12
      try clear q12
      try clear hx12
      try clear qi12
      try clear hf12
      try clear c13
      try clear c13b0
      try clear c13b1
      try clear p14
      try clear q14
      try clear hx14
      try clear qi14
      try clear hf14
      try clear c15
      try clear c15b0
      try clear c15b1
      try clear p16
      try clear q16
      try clear hx16
      try clear qi16
      try clear hf16
      try clear c29
      try clear c29b0
      try clear c30
      try clear c30b0
      try clear c32
      try clear c32b0
      try clear c33
      try clear c33b0
      try clear c35
      try clear c35b0
      try clear c35b1
      try clear p37
      try clear q37
      try clear hx37
      try clear hf37
      try clear c42
      try clear c42b0
      try clear c43
      try clear c43b0
      try clear c45
      try clear c45b0
      try clear c46
      try clear c46b0
      try clear c48
      try clear c48b0
      try clear c48b1
      try clear p50
      try clear q50
      try clear hx50
      try clear hf50
      try clear hcz18_0
      try clear hcz18_1
      try clear hcz18_2
      try clear hcz18_3
      try clear hcz18_4
      try clear hcz18_5
      try clear hcz18_6
      try clear hcz38_0
      try clear hcz38_1
      try clear hcz38_2
      try clear hcz38_3
      try clear hcz38_4
      try clear hcz38_5
      try clear hcz38_6
      try clear hcz41_0
      try clear hcz41_1
      try clear hcz41_2
      try clear hcz41_3
      try clear hcz41_4
      try clear hcz41_5
      try clear hcz41_6
      try clear hcz51_0
      try clear hcz51_1
      try clear hcz51_2
      try clear hcz51_3
      try clear hcz51_4
      try clear hcz51_5
      try clear hcz51_6
      try clear hcz54_0
      try clear hcz54_1
      try clear hcz54_2
      try clear hcz54_3
      try clear hcz54_4
      try clear hcz54_5
      try clear hcz54_6
      try clear hfz18_0
      try clear hfz18_1
      try clear hfz18_2
      try clear hfz18_3
      try clear hfz18_4
      try clear hfz18_5
      try clear hfz18_6
      try clear hfz38_0
      try clear hfz38_1
      try clear hfz38_2
      try clear hfz38_3
      try clear hfz38_4
      try clear hfz38_5
      try clear hfz38_6
      try clear hfz41_0
      try clear hfz41_1
      try clear hfz41_2
      try clear hfz41_3
      try clear hfz41_4
      try clear hfz41_5
      try clear hfz41_6
      try clear hfz51_0
      try clear hfz51_1
      try clear hfz51_2
      try clear hfz51_3
      try clear hfz51_4
      try clear hfz51_5
      try clear hfz51_6
      try clear hfz54_0
      try clear hfz54_1
      try clear hfz54_2
      try clear hfz54_3
      try clear hfz54_4
      try clear hfz54_5
      try clear hfz54_6
      try clear hx10_0
      try clear hx119_0
      try clear hx120_0
      try clear hx121_0
      try clear hx123_0
      try clear hx124_0
      try clear hx125_0
      try clear hx12_0
      try clear hx14_0
      try clear hx16_0
      try clear hx37_0
      try clear hx50_0
      try clear hx6_0
      try clear hx8_0
      try clear p1
      try clear p10
      try clear p11
      try clear p119
      try clear p12
      try clear p120
      try clear p121
      try clear p123
      try clear p124
      try clear p125
      try clear p14
      try clear p16
      try clear p2
      try clear p3
      try clear p37
      try clear p50
      try clear p6
      try clear p8
      try clear q1
      try clear q10
      try clear q11
      try clear q119
      try clear q12
      try clear q120
      try clear q121
      try clear q123
      try clear q124
      try clear q125
      try clear q14
      try clear q16
      try clear q3
      try clear q37
      try clear q50
      try clear q6
      try clear q8
      obtain ⟨x7_3, x8_3, rfl, rfl, HA, HK3, HO_4, BK108, HB⟩ := hrel
      cases gk with
      | zero => exact absurd HA.out (by simp [selvedgeref18_Encode.l2])
      | succ k3 =>
       have H := HA.out
       clear HA
       simp only [selvedgeref18_Encode.l2] at H
       by_cases c55 : x8_3 < 31
       ·rw [if_pos c55] at H
        have c55b0 : decide (x8_3 < 31) = true := decide_eq_true c55
        clear c55
        by_cases c56 : 0 ≤ x8_3
        rotate_left
        ·rw [if_neg c56] at H
         exact absurd H (by simp)
        rw [if_pos c56] at H
        have c56b0 : decide (0 ≤ x8_3) = true := decide_eq_true c56
        clear c56
        by_cases c57 : x8_3 < (x4_2.length : Int)
        rotate_left
        ·rw [if_neg c57] at H
         exact absurd H (by simp)
        rw [if_pos c57] at H
        have c57b0 : decide (x8_3 < (x4_2.length : Int)) = true := decide_eq_true c57
        clear c57
        have H' := Aside0.mk H
        clear H
        have p127 : 0 ≤ (x8_3 : Int) := of_decide_eq_true (by first | with_reducible assumption | assumption)
        have q127 : x8_3 < (x4_2.length : Int) := of_decide_eq_true (by first | with_reducible assumption | assumption)
        obtain ⟨ad127, e127, hx127_0⟩ := Kd.at_int (Kd.R_reads' HO_4.out).2.2 x8_3 p127 q127
        obtain rfl : (⟨go6, 0, none⟩ : Addr) = ad127 := (by injection e127)
        (first | simp only [add_plain] at hx127_0 | simp only [add_at] at hx127_0 | simp only [Addr.add, Nat.zero_add] at hx127_0 | skip)
        replace p127 := eq_true p127
        replace q127 := eq_true q127
        go_wp2
        go_roundg k3
        case measure => have := HK1.out; have := HK2.out; have := HK3.out; omega
        case rel => exact ⟨((x7_3 + (rd x4_2 x8_3)) % 256), (wrap64 (x8_3 + 1)), (by first | rfl | (simp; done) | (simp [*]; done)), (by first | rfl | (simp; done) | (simp [*]; done)), H', ⟨by have := HK1.out; have := HK2.out; have := HK3.out; omega⟩, ⟨by (try simp only [hl4_1]); (try simp only [hl4_2]); (with_reducible repeat (first | apply Kd.R_alloc | apply Kd.R_drewN | apply Kd.R_drew)); exact HO_4.out⟩, ⟨by (try simp only [hl4_1]); (try simp only [hl4_2]); (with_reducible repeat (first | refine blk_drewN ?_ _ | refine blk_drew ?_ | refine blk_alloc ?_ _)); exact BK108.out⟩, ⟨bs HB (by simp [ag, GE108.out])⟩⟩
       rw [if_neg c55] at H
       have c55b0 : decide (x8_3 < 31) = false := decide_eq_false c55
       clear c55
       by_cases c58 : 31 < (x4_2.length : Int)
       rotate_left
       ·rw [if_neg c58] at H
        exact absurd H (by simp)
       rw [if_pos c58] at H
       have c58b0 : decide (31 < (x4_2.length : Int)) = true := decide_eq_true c58
       have c58b1 : decide (31 < x4_2.length) = true := decide_eq_true (by omega)
       clear c58
       obtain ⟨y128, hy128⟩ : ∃ y_ : List Int, y_ = (x4_2.set (31 : Int).toNat x7_3) := ⟨_, rfl⟩
       replace H : (some (y128, 0)) = some (r1, r2) := by first | (rw [hy128]; with_reducible exact H) | (have H2_ := (Option.bind_some _ _).symm.trans H; rw [hy128]; with_reducible exact H2_) | (have H2_ := (Option.bind_some _ _).symm.trans H; with_reducible exact H2_) | with_reducible exact H | (rw [hy128]; exact H) | exact H
       have Ny128 := Aside0.mk hy128
       clear hy128
       simp only [Option.some.injEq, Prod.mk.injEq] at H
       obtain ⟨rfl, rfl⟩ := H
       have p59 : 0 ≤ (31 : Int) := (by omega)
       have q59 : (31 : Int) < ((x4_2.length : Int) : Int) := of_decide_eq_true (by first | with_reducible assumption | assumption)
       have qi59 : (31 < x4_2.length) = True := eq_true (by omega)
       obtain ⟨hx59_0, hf59_0⟩ := Kd.R_celln 0 HO_4.out (31 : Int) p59 q59
       (try rw [show ((31 : Int)).toNat = 31 from rfl] at hx59_0)
       (try simp only [Nat.reduceMul, Nat.zero_mul, Nat.zero_add, Nat.reduceAdd] at hx59_0)
       (try rw [show ((31 : Int)).toNat = 31 from rfl] at hf59_0)
       (try simp only [Nat.reduceMul, Nat.zero_mul, Nat.zero_add, Nat.reduceAdd] at hf59_0)
       replace p59 := eq_true p59
       replace q59 := eq_true q59
       have HP60 := Kd.R_putg HO_4.out (31 : Int) x7_3
       go_wp2_with (first | ((with_reducible refine gate_store (t := 5) (p := 104) rfl ?_); refine store_event (t := 5) (p := 104) (v := ?vo_w61) (w1 := (wr.setCell ⟨go6, (31 : Int).toNat, none⟩ (.int .u8 x7_3))) ?hg ?ho ?hn ?hr ?_; (case ho => rfl); (case hg => rfl); (case hn => rfl); (case hr => first | (go_simp; done) | (go_simp; rfl)); intro w61 hw; have hg : wr.grownBy w61 (some go6) := (by rw [hw]; exact HP60.2); have hp_ : Kd.R (Kd.int .u8) 5 w61 w.heap.size (fun _ => True) (.slice (some ⟨go6, 0, none⟩) x4_2.length co6) y128 := (by rw [hw, Ny128.out]; exact HP60.1); clear HP60; replace BK108 := Aside0.mk (blk_grown (g := gb108) (o := .cells #[.int .i64 a0_0, .int .i64 a0_1, .int .i64 a0_2, .int .i64 a0_3, .int .i64 a0_4, .slice A0_5 l0_5.length c0_5, .slice A0_6 l0_6.length c0_6] 42 (0, 0)) (bk BK108) hg (Kd.R_ne HO_4.out BK108.out (by decide))); replace HO_4 := Aside0.mk (hp_); replace HB := Aside0.mk ((by rw [hw]; exact below_set (HB.out) GB6.out : Below w.heap.size w w61)); clear hg hw hp_))
       go_ret2
       exact ⟨_, by first | rfl | (simp [errW_none, errW_some] <;> rfl) | (simp [*, errW_none, errW_some] <;> rfl), rk HO_4, bs HB (by simp [ag, GE108.out])⟩
end Go.Proofs.Ytehjmmedghcndaa.PG
