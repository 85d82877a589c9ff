import Derived.Test.YtehjmmedghcndaaCC
import Derived.Test.YtehjmmedghcndaaG1
import Derived.Test.YtehjmmedghcndaaLT
/-! cyl.may. -/
namespace Go.Proofs.Ytehjmmedghcndaa.PG
open Go.RowKit Go.Proofs.YtehjmmedghcndaaW.PrintWords Go.Proofs.YtehjmmedghcndaaW.PrintLast Go.Proofs.YtehjmmedghcndaaW.PrintMore
attribute [local go_sem] Oper.semAt_some
/-- How many numbers a group has. -/
def manyS (fn : Nat) (c : S42) : Int := if fn = 46 then c.f1 else 16
/-- The error of an address. -/
def mayS (l : List S42) (a b : Int) (fn : Nat) : Int := if wholeB l = false then 3 else if a < 0 ∨ (l.length : Int) ≤ a ∨ b < 0 ∨ manyS fn (rd_T42 l a) ≤ b then 2 else 0
theorem many_calls (fn : Nat) (hfn : fn = 46 ∨ fn = 72) (y : S42) (A5 : Option Addr) (c5 : Nat) (A6 : Option Addr) (c6 : Nat) (w : World) (h5 : Kd.C (Kd.int .i64) w A5 y.f5.length y.f5) (k5 : y.f5.length ≤ c5) (h6 : Kd.C (Kd.int .i64) w A6 y.f6.length y.f6) (k6 : y.f6.length ≤ c6) :
  Calls Try.prog fn #[.agg #[.int .i64 y.f0, .int .i64 y.f1, .int .i64 y.f2, .int .i64 y.f3, .int .i64 y.f4, .slice A5 y.f5.length c5, .slice A6 y.f6.length c6]] w fun e w' => e = .returned (.int .i64 (manyS fn y)) ∧ Below w.heap.size w w' := by
 rcases hfn with rfl | rfl
 ·exact cyl_blocks.calls _ _ _ _ _ _ _ _ _ _ _ _ w h5 k5 h6 k6 rfl
 ·exact cyl_inodes.calls _ _ _ _ _ _ _ _ _ _ _ _ w h5 k5 h6 k6 rfl
theorem many_enters (fn : Nat) (hfn : fn = 46 ∨ fn = 72) (args : Array Value) (w : World) : (callFunc fn args).run Try.prog w = .ok (.enter fn args) w := by
 rcases hfn with rfl | rfl
 ·exact enters_ Try.func46 (by kernel_rfl) rfl args w
 ·exact enters_ Try.func72 (by kernel_rfl) rfl args w
theorem wholeN {l : List S42} (h : wholeB l = true) : l.length ≤ 16 := ((whole_iff l).1 h).n1
def may_T3 : Bool × List (List Nat × List Nat) := (true, [([], []), ([0], [0]), ([1], [1]), ([2], [2]), ([3], [3]), ([4, 3], [3, 4]), ([3], [3]), ([6, 3], [3, 6]), ([5, 7, 3], [3, 5, 7]), ([3, 8], [3, 8]), ([9, 3], [9]), ([10], [10]), ([11, 10], [10, 11]), ([12, 10], [10, 12]), ([10, 13], [10, 13]), ([14, 10], [14]), ([15], [15]), ([16, 15], [15, 16]), ([15], [15]), ([15], [15]), ([15], [15]), ([20, 15], [15, 20]), ([19, 21, 15], [15, 19, 21]), ([22, 15], [15, 22]), ([18, 23, 15, 15], [15, 18, 23]), ([17, 24, 15], [15, 17, 24]), ([15, 25], [15, 25])])
def may_B3 : List Nat := [0, 1, 3, 7, 15, 31, 15, 79, 255, 511, 1023, 2047, 4095, 8191, 16383, 32767, 65535, 131071, 65535, 65535, 65535, 1114111, 3735551, 7929855, 16580607, 33554431, 67108863]
theorem may_tab3 : rtab .any (opsOf Try.f45 3) = may_T3 := by kernel_rfl
theorem may_bits3 : waitsOk may_T3.2 may_B3 = true := by kernel_rfl
set_option maxHeartbeats 4000000 in
set_option maxRecDepth 100000 in
theorem may_wrong (fn : Nat) (A0 : Option Addr) (c0 : Nat) (l : List S42) (a b : Int) (w : World) (hC : Kd.C k42 w A0 l.length l) (hc0 : l.length ≤ c0) (hl : SmallL l) (hw : wholeB l = false) :
  Calls Try.prog 45 #[.slice A0 l.length c0, .agg #[.int .i64 a, .int .i64 b], .func (.func fn) #[] #[]] w fun e w' => e = .returned (.int .i64 3) ∧ Below w.heap.size w w' := by
 have hwi := whole_is l hl 0
 rw [hw] at hwi
 have HW := Aside0.mk hwi
 have HC := Aside0.mk hC
 have HCC := Aside0.mk hc0
 clear hwi hw hl hC hc0
 go_enter Try.func45, Try.ntmps45
 go_wp2_with (go_at_call 19; refine (cyl_Whole.calls _ A0 c0 l false _ (Kd.C_alloc HC.out _) HCC.out HW.out).mono ?_; rintro e w1 ⟨rfl, hb⟩; have HB1 : Aside0 (Below w.heap.size w w1) := ⟨below_step ((Below.refl _ w).alloc (Nat.le_refl _) _) hb⟩; clear hb)
 go_ret
 exact ⟨rfl, HB1.out⟩
set_option maxHeartbeats 8000000 in
set_option maxRecDepth 100000 in
theorem may_a0 (fn : Nat) (A0 : Option Addr) (c0 : Nat) (l : List S42) (a b : Int) (w : World) (hC : Kd.C k42 w A0 l.length l) (hc0 : l.length ≤ c0) (hl : SmallL l) (hw : wholeB l = true) (h1 : a < 0) :
  Calls Try.prog 45 #[.slice A0 l.length c0, .agg #[.int .i64 a, .int .i64 b], .func (.func fn) #[] #[]] w fun e w' => e = .returned (.int .i64 2) ∧ Below w.heap.size w w' := by
 have hwi := whole_is l hl 0
 have hn := wholeN hw
 rw [hw] at hwi
 have HW := Aside0.mk hwi
 have HC := Aside0.mk hC
 have HCC := Aside0.mk hc0
 clear hwi hw hl hC hc0
 have f1 : decide (a < 0) = true := decide_eq_true h1
 clear h1 hn
 go_enter Try.func45, Try.ntmps45
 go_upto_region 3 with (go_at_call 19; refine (cyl_Whole.calls _ A0 c0 l true _ (Kd.C_alloc HC.out _) HCC.out HW.out).mono ?_; rintro e w1 ⟨rfl, hb⟩; have HB1 : Aside0 (Below w.heap.size w w1) := ⟨below_step ((Below.refl _ w).alloc (Nat.le_refl _) _) hb⟩; have x0 : w1.cell? ⟨w.heap.size, 0, none⟩ = some (.int .i64 a) := pw_cell_below hb (by simp); have x1 : w1.cell? ⟨w.heap.size, 1, none⟩ = some (.int .i64 b) := pw_cell_below hb (by simp); clear hb)
 go_quiet (fail)
 go_wp2
 go_ret
 exact ⟨rfl, pw_below_drewN HB1.out _⟩
set_option maxHeartbeats 8000000 in
set_option maxRecDepth 100000 in
theorem may_a1 (fn : Nat) (A0 : Option Addr) (c0 : Nat) (l : List S42) (a b : Int) (w : World) (hC : Kd.C k42 w A0 l.length l) (hc0 : l.length ≤ c0) (hl : SmallL l) (hw : wholeB l = true) (h1 : 0 ≤ a) (h2 : (l.length : Int) ≤ a) :
  Calls Try.prog 45 #[.slice A0 l.length c0, .agg #[.int .i64 a, .int .i64 b], .func (.func fn) #[] #[]] w fun e w' => e = .returned (.int .i64 2) ∧ Below w.heap.size w w' := by
 have hwi := whole_is l hl 0
 have hn := wholeN hw
 rw [hw] at hwi
 have HW := Aside0.mk hwi
 have HC := Aside0.mk hC
 have HCC := Aside0.mk hc0
 clear hwi hw hl hC hc0
 have f1 : decide (a < 0) = false := decide_eq_false (by omega)
 have f2 : decide ((l.length : Int) ≤ a) = true := decide_eq_true h2
 clear h1 h2 hn
 go_enter Try.func45, Try.ntmps45
 go_upto_region 3 with (go_at_call 19; refine (cyl_Whole.calls _ A0 c0 l true _ (Kd.C_alloc HC.out _) HCC.out HW.out).mono ?_; rintro e w1 ⟨rfl, hb⟩; have HB1 : Aside0 (Below w.heap.size w w1) := ⟨below_step ((Below.refl _ w).alloc (Nat.le_refl _) _) hb⟩; have x0 : w1.cell? ⟨w.heap.size, 0, none⟩ = some (.int .i64 a) := pw_cell_below hb (by simp); have x1 : w1.cell? ⟨w.heap.size, 1, none⟩ = some (.int .i64 b) := pw_cell_below hb (by simp); clear hb)
 go_quiet (fail)
 go_wp2
 go_ret
 exact ⟨rfl, pw_below_drewN HB1.out _⟩
set_option maxHeartbeats 8000000 in
set_option maxRecDepth 100000 in
theorem may_b0 (fn : Nat) (A0 : Option Addr) (c0 : Nat) (l : List S42) (a b : Int) (w : World) (hC : Kd.C k42 w A0 l.length l) (hc0 : l.length ≤ c0) (hl : SmallL l) (hw : wholeB l = true) (h1 : 0 ≤ a) (h2 : a < (l.length : Int)) (h3 : b < 0) :
  Calls Try.prog 45 #[.slice A0 l.length c0, .agg #[.int .i64 a, .int .i64 b], .func (.func fn) #[] #[]] w fun e w' => e = .returned (.int .i64 2) ∧ Below w.heap.size w w' := by
 have hwi := whole_is l hl 0
 have hn := wholeN hw
 rw [hw] at hwi
 have HW := Aside0.mk hwi
 have HC := Aside0.mk hC
 have HCC := Aside0.mk hc0
 clear hwi hw hl hC hc0
 have f1 : decide (a < 0) = false := decide_eq_false (by omega)
 have f2 : decide ((l.length : Int) ≤ a) = false := decide_eq_false (by omega)
 have f3 : decide (b < 0) = true := decide_eq_true h3
 clear h1 h2 h3 hn
 go_enter Try.func45, Try.ntmps45
 go_upto_region 3 with (go_at_call 19; refine (cyl_Whole.calls _ A0 c0 l true _ (Kd.C_alloc HC.out _) HCC.out HW.out).mono ?_; rintro e w1 ⟨rfl, hb⟩; have HB1 : Aside0 (Below w.heap.size w w1) := ⟨below_step ((Below.refl _ w).alloc (Nat.le_refl _) _) hb⟩; have x0 : w1.cell? ⟨w.heap.size, 0, none⟩ = some (.int .i64 a) := pw_cell_below hb (by simp); have x1 : w1.cell? ⟨w.heap.size, 1, none⟩ = some (.int .i64 b) := pw_cell_below hb (by simp); clear hb)
 go_quiet (fail)
 go_wp2
 go_ret
 exact ⟨rfl, pw_below_drewN HB1.out _⟩
set_option maxHeartbeats 8000000 in
set_option maxRecDepth 100000 in
theorem may_big (fn : Nat) (hfn : fn = 46 ∨ fn = 72) (A0 : Option Addr) (c0 : Nat) (l : List S42) (a b : Int) (w : World) (hC : Kd.C k42 w A0 l.length l) (hc0 : l.length ≤ c0) (hl : SmallL l) (hw : wholeB l = true) (h1 : 0 ≤ a) (h2 : a < (l.length : Int)) (h3 : 0 ≤ b) (h4 : manyS fn (rd_T42 l a) ≤ b) :
  Calls Try.prog 45 #[.slice A0 l.length c0, .agg #[.int .i64 a, .int .i64 b], .func (.func fn) #[] #[]] w fun e w' => e = .returned (.int .i64 2) ∧ Below w.heap.size w w' := by
 have hwi := whole_is l hl 0
 have hn := wholeN hw
 rw [hw] at hwi
 have HW := Aside0.mk hwi
 have HC := Aside0.mk hC
 have HCC := Aside0.mk hc0
 clear hwi hw hl hC hc0
 have f1 : decide (a < 0) = false := decide_eq_false (by omega)
 have f2 : decide ((l.length : Int) ≤ a) = false := decide_eq_false (by omega)
 have f3 : decide (b < 0) = false := decide_eq_false (by omega)
 have f4 : decide (manyS fn (rd_T42 l a) ≤ b) = true := decide_eq_true h4
 have p1 : (0 ≤ a) = True := eq_true h1
 have q1 : (a < (l.length : Int)) = True := eq_true h2
 have hat := fun W (hb : Below w.heap.size w W) => at_T42 (Kd.C_below HC.out hb) a h1 h2
 obtain ⟨y, hy⟩ : ∃ y, rd_T42 l a = y := ⟨_, rfl⟩
 rw [hy] at f4
 rw [hy] at hat
 clear hy h1 h2 h3 h4 hn
 go_enter Try.func45, Try.ntmps45
 go_upto_region 3 with (go_at_call 19; refine (cyl_Whole.calls _ A0 c0 l true _ (Kd.C_alloc HC.out _) HCC.out HW.out).mono ?_; rintro e w1 ⟨rfl, hb⟩; have HB1 : Aside0 (Below w.heap.size w w1) := ⟨below_step ((Below.refl _ w).alloc (Nat.le_refl _) _) hb⟩; have x0 : w1.cell? ⟨w.heap.size, 0, none⟩ = some (.int .i64 a) := pw_cell_below hb (by simp); have x1 : w1.cell? ⟨w.heap.size, 1, none⟩ = some (.int .i64 b) := pw_cell_below hb (by simp); clear hb)
 obtain ⟨ad, A5, c5, A6, c6, rfl, y0, y1, y2, y3, y4, y5, y6, l5, g5, l6, g6⟩ := hat w1 HB1.out
 have hmc := fun W (hb : Below w1.heap.size w1 W) => many_calls fn hfn y A5 c5 A6 c6 W (Kd.C_below g5 hb) l5 (Kd.C_below g6 hb) l6
 clear hat g5 l5 g6 l6
 refine start_ (n := 27) (S := fun w' => w'.cell? ⟨w.heap.size, 0, none⟩ = some (.int .i64 a) ∧ w'.cell? ⟨w.heap.size, 1, none⟩ = some (.int .i64 b) ∧ w'.cell? (ad.add (a.toNat * 7)) = some (.int .i64 y.f0) ∧ w'.cell? ⟨(ad.add (a.toNat * 7)).block, (ad.add (a.toNat * 7)).off + 1, none⟩ = some (.int .i64 y.f1) ∧ w'.cell? ⟨(ad.add (a.toNat * 7)).block, (ad.add (a.toNat * 7)).off + 2, none⟩ = some (.int .i64 y.f2) ∧ w'.cell? ⟨(ad.add (a.toNat * 7)).block, (ad.add (a.toNat * 7)).off + 3, none⟩ = some (.int .i64 y.f3) ∧ w'.cell? ⟨(ad.add (a.toNat * 7)).block, (ad.add (a.toNat * 7)).off + 4, none⟩ = some (.int .i64 y.f4) ∧ w'.cell? ⟨(ad.add (a.toNat * 7)).block, (ad.add (a.toNat * 7)).off + 5, none⟩ = some (.slice A5 y.f5.length c5) ∧ w'.cell? ⟨(ad.add (a.toNat * 7)).block, (ad.add (a.toNat * 7)).off + 6, none⟩ = some (.slice A6 y.f6.length c6)) (ds := []) #[false, false, false, false, false, false, false, false, false, false, false, false, false, false, false, false, false, false, false, false, false, false, false, false, false, false, false] (by kernel_rfl) rfl rfl ⟨x0, x1, y0, y1, y2, y3, y4, y5, y6⟩ (fun hHeld => ?_); refine with_tabW may_tab3 may_bits3 (fun HT_ HW_ => ?_)
 refine pure_ (i := 0) (N := some 10) (v := ?_) (a' := ?_) #[true, false, false, false, false, false, false, false, false, false, false, false, false, false, false, false, false, false, false, false, false, false, false, false, false, false, false] rfl rfl (any_of HT_.out (by kernel_rfl)) (fun _ _ _ h => h) (Or.inl ⟨by rfl, ?_⟩) ?_ ?_
 rotate_left
 ·intro w'
  go_simp
  with_reducible rfl
 rotate_left
 ·go_simp
  rfl
 refine take_ (i := 1) (N := some 11) (v := ?_) (a' := ?_) #[true, true, false, false, false, false, false, false, false, false, false, false, false, false, false, false, false, false, false, false, false, false, false, false, false, false, false] rfl rfl (take_ofW HT_.out HW_.out (by kernel_rfl)) (fun _ _ _ h => h) (Or.inl ⟨by rfl, ?_⟩) hHeld ?_ ?_
 rotate_left
 ·rintro w' ⟨s0, s1, s2, s3, s4, s5, s6, s7, s8⟩
  go_simp
  with_reducible rfl
 rotate_left
 ·go_simp
  rfl
 refine pure_ (i := 2) (N := some 12) (v := ?_) (a' := ?_) #[true, true, true, false, false, false, false, false, false, false, false, false, false, false, false, false, false, false, false, false, false, false, false, false, false, false, false] rfl rfl (any_of HT_.out (by kernel_rfl)) (fun _ _ _ h => h) (Or.inl ⟨by rfl, ?_⟩) ?_ ?_
 rotate_left
 ·intro w'
  go_simp
  with_reducible rfl
 rotate_left
 ·go_simp
  rfl
 refine pure_ (i := 3) (N := some 13) (v := ?_) (a' := ?_) #[true, true, true, true, false, false, false, false, false, false, false, false, false, false, false, false, false, false, false, false, false, false, false, false, false, false, false] rfl rfl (any_of HT_.out (by kernel_rfl)) (fun _ _ _ h => h) (Or.inl ⟨by rfl, ?_⟩) ?_ ?_
 rotate_left
 ·intro w'
  go_simp
  with_reducible rfl
 rotate_left
 ·go_simp
  rfl
 refine pure_ (i := 4) (N := some 14) (v := ?_) (a' := ?_) #[true, true, true, true, true, false, false, false, false, false, false, false, false, false, false, false, false, false, false, false, false, false, false, false, false, false, false] rfl rfl (any_of HT_.out (by kernel_rfl)) (fun _ _ _ h => h) (Or.inl ⟨by rfl, ?_⟩) ?_ ?_
 rotate_left
 ·intro w'
  go_simp
  with_reducible rfl
 rotate_left
 ·go_simp
  rfl
 refine take_ (i := 5) (N := some 15) (v := ?_) (a' := ?_) #[true, true, true, true, true, true, false, false, false, false, false, false, false, false, false, false, false, false, false, false, false, false, false, false, false, false, false] rfl rfl (take_ofW HT_.out HW_.out (by kernel_rfl)) (fun _ _ _ h => h) (Or.inl ⟨by rfl, ?_⟩) hHeld ?_ ?_
 rotate_left
 ·rintro w' ⟨s0, s1, s2, s3, s4, s5, s6, s7, s8⟩
  go_simp
  with_reducible rfl
 rotate_left
 ·go_simp
  rfl
 refine pure_ (i := 6) (N := some 16) (v := ?_) (a' := ?_) #[true, true, true, true, true, true, true, false, false, false, false, false, false, false, false, false, false, false, false, false, false, false, false, false, false, false, false] rfl rfl (any_of HT_.out (by kernel_rfl)) (fun _ _ _ h => h) (Or.inl ⟨by rfl, ?_⟩) ?_ ?_
 rotate_left
 ·intro w'
  go_simp
  with_reducible rfl
 rotate_left
 ·go_simp
  rfl
 refine pure_ (i := 7) (N := some 17) (v := ?_) (a' := ?_) #[true, true, true, true, true, true, true, true, false, false, false, false, false, false, false, false, false, false, false, false, false, false, false, false, false, false, false] rfl rfl (any_of HT_.out (by kernel_rfl)) (fun _ _ _ h => h) (Or.inl ⟨by rfl, ?_⟩) ?_ ?_
 rotate_left
 ·intro w'
  go_simp
  with_reducible rfl
 rotate_left
 ·go_simp
  rfl
 refine pure_ (i := 8) (N := some 18) (v := ?_) (a' := ?_) #[true, true, true, true, true, true, true, true, true, false, false, false, false, false, false, false, false, false, false, false, false, false, false, false, false, false, false] rfl rfl (any_of HT_.out (by kernel_rfl)) (fun _ _ _ h => h) (Or.inl ⟨by rfl, ?_⟩) ?_ ?_
 rotate_left
 ·intro w'
  go_simp
  with_reducible rfl
 rotate_left
 ·go_simp
  rfl
 refine pure_ (i := 9) (N := some 19) (v := ?_) (a' := ?_) #[true, true, true, true, true, true, true, true, true, true, false, false, false, false, false, false, false, false, false, false, false, false, false, false, false, false, false] rfl rfl (any_of HT_.out (by kernel_rfl)) (fun _ _ _ h => h) (Or.inl ⟨by rfl, ?_⟩) ?_ ?_
 rotate_left
 ·intro w'
  go_simp
  with_reducible rfl
 rotate_left
 ·go_simp
  rfl
 refine pure_ (i := 10) (N := some 20) (v := ?_) (a' := ?_) #[true, true, true, true, true, true, true, true, true, true, true, false, false, false, false, false, false, false, false, false, false, false, false, false, false, false, false] rfl rfl (any_of HT_.out (by kernel_rfl)) (fun _ _ _ h => h) (Or.inl ⟨by rfl, ?_⟩) ?_ ?_
 rotate_left
 ·intro w'
  go_simp
  with_reducible rfl
 rotate_left
 ·go_simp
  rfl
 refine pure_ (i := 11) (N := some 21) (v := ?_) (a' := ?_) #[true, true, true, true, true, true, true, true, true, true, true, true, false, false, false, false, false, false, false, false, false, false, false, false, false, false, false] rfl rfl (any_of HT_.out (by kernel_rfl)) (fun _ _ _ h => h) (Or.inl ⟨by rfl, ?_⟩) ?_ ?_
 rotate_left
 ·intro w'
  go_simp
  with_reducible rfl
 rotate_left
 ·go_simp
  rfl
 refine take_ (i := 12) (N := some 22) (v := ?_) (a' := ?_) #[true, true, true, true, true, true, true, true, true, true, true, true, true, false, false, false, false, false, false, false, false, false, false, false, false, false, false] rfl rfl (take_ofW HT_.out HW_.out (by kernel_rfl)) (fun _ _ _ h => h) (Or.inl ⟨by rfl, ?_⟩) hHeld ?_ ?_
 rotate_left
 ·rintro w' ⟨s0, s1, s2, s3, s4, s5, s6, s7, s8⟩
  go_simp
  with_reducible rfl
 rotate_left
 ·go_simp
  rfl
 refine pure_ (i := 13) (N := some 23) (v := ?_) (a' := ?_) #[true, true, true, true, true, true, true, true, true, true, true, true, true, true, false, false, false, false, false, false, false, false, false, false, false, false, false] rfl rfl (any_of HT_.out (by kernel_rfl)) (fun _ _ _ h => h) (Or.inl ⟨by rfl, ?_⟩) ?_ ?_
 rotate_left
 ·intro w'
  go_simp
  with_reducible rfl
 rotate_left
 ·go_simp
  rfl
 refine pure_ (i := 14) (N := some 24) (v := ?_) (a' := ?_) #[true, true, true, true, true, true, true, true, true, true, true, true, true, true, true, false, false, false, false, false, false, false, false, false, false, false, false] rfl rfl (any_of HT_.out (by kernel_rfl)) (fun _ _ _ h => h) (Or.inl ⟨by rfl, ?_⟩) ?_ ?_
 rotate_left
 ·intro w'
  go_simp
  with_reducible rfl
 rotate_left
 ·go_simp
  rfl
 refine pure_ (i := 15) (N := some 25) (v := ?_) (a' := ?_) #[true, true, true, true, true, true, true, true, true, true, true, true, true, true, true, true, false, false, false, false, false, false, false, false, false, false, false] rfl rfl (any_of HT_.out (by kernel_rfl)) (fun _ _ _ h => h) (Or.inl ⟨by rfl, ?_⟩) ?_ ?_
 rotate_left
 ·intro w'
  go_simp
  with_reducible rfl
 rotate_left
 ·go_simp
  rfl
 refine pure_ (i := 16) (N := some 26) (v := ?_) (a' := ?_) #[true, true, true, true, true, true, true, true, true, true, true, true, true, true, true, true, true, false, false, false, false, false, false, false, false, false, false] rfl rfl (any_of HT_.out (by kernel_rfl)) (fun _ _ _ h => h) (Or.inl ⟨by rfl, ?_⟩) ?_ ?_
 rotate_left
 ·intro w'
  go_simp
  with_reducible rfl
 rotate_left
 ·go_simp
  rfl
 refine take_ (i := 17) (N := some 27) (v := ?_) (a' := ?_) #[true, true, true, true, true, true, true, true, true, true, true, true, true, true, true, true, true, true, false, false, false, false, false, false, false, false, false] rfl rfl (take_ofW HT_.out HW_.out (by kernel_rfl)) (fun _ _ _ h => h) (Or.inl ⟨by rfl, ?_⟩) hHeld ?_ ?_
 rotate_left
 ·rintro w' ⟨s0, s1, s2, s3, s4, s5, s6, s7, s8⟩
  go_simp
  with_reducible rfl
 rotate_left
 ·go_simp
  rfl
 refine pure_ (i := 18) (N := some 28) (v := ?_) (a' := ?_) #[true, true, true, true, true, true, true, true, true, true, true, true, true, true, true, true, true, true, true, false, false, false, false, false, false, false, false] rfl rfl (any_of HT_.out (by kernel_rfl)) (fun _ _ _ h => h) (Or.inl ⟨by rfl, ?_⟩) ?_ ?_
 rotate_left
 ·intro w'
  go_simp
  with_reducible rfl
 rotate_left
 ·go_simp
  rfl
 refine pure_ (i := 19) (N := some 29) (v := ?_) (a' := ?_) #[true, true, true, true, true, true, true, true, true, true, true, true, true, true, true, true, true, true, true, true, false, false, false, false, false, false, false] rfl rfl (any_of HT_.out (by kernel_rfl)) (fun _ _ _ h => h) (Or.inl ⟨by rfl, ?_⟩) ?_ ?_
 rotate_left
 ·intro w'
  go_simp
  with_reducible rfl
 rotate_left
 ·go_simp
  rfl
 refine pure_ (i := 20) (N := some 30) (v := ?_) (a' := ?_) #[true, true, true, true, true, true, true, true, true, true, true, true, true, true, true, true, true, true, true, true, true, false, false, false, false, false, false] rfl rfl (any_of HT_.out (by kernel_rfl)) (fun _ _ _ h => h) (Or.inl ⟨by rfl, ?_⟩) ?_ ?_
 rotate_left
 ·intro w'
  go_simp
  with_reducible rfl
 rotate_left
 ·go_simp
  rfl
 refine take_ (i := 21) (N := some 31) (v := ?_) (a' := ?_) #[true, true, true, true, true, true, true, true, true, true, true, true, true, true, true, true, true, true, true, true, true, true, false, false, false, false, false] rfl rfl (take_ofW HT_.out HW_.out (by kernel_rfl)) (fun _ _ _ h => h) (Or.inl ⟨by rfl, ?_⟩) hHeld ?_ ?_
 rotate_left
 ·rintro w' ⟨s0, s1, s2, s3, s4, s5, s6, s7, s8⟩
  go_simp
  with_reducible rfl
 rotate_left
 ·go_simp
  rfl
 refine pure_ (i := 22) (N := some 32) (v := ?_) (a' := ?_) #[true, true, true, true, true, true, true, true, true, true, true, true, true, true, true, true, true, true, true, true, true, true, true, false, false, false, false] rfl rfl (any_of HT_.out (by kernel_rfl)) (fun _ _ _ h => h) (Or.inl ⟨by rfl, ?_⟩) ?_ ?_
 rotate_left
 ·intro w'
  go_simp
  with_reducible rfl
 rotate_left
 ·go_simp
  rfl
 refine take_ (i := 23) (N := some 33) (v := ?_) (a' := ?_) #[true, true, true, true, true, true, true, true, true, true, true, true, true, true, true, true, true, true, true, true, true, true, true, true, false, false, false] rfl rfl (take_ofW HT_.out HW_.out (by kernel_rfl)) (fun _ _ _ h => h) (Or.inl ⟨by rfl, ?_⟩) hHeld ?_ ?_
 rotate_left
 ·rintro w' ⟨s0, s1, s2, s3, s4, s5, s6, s7, s8⟩
  go_simp
  with_reducible rfl
 rotate_left
 ·go_simp
  rfl
 refine one_ (i := 24) (N := some 34) #[true, true, true, true, true, true, true, true, true, true, true, true, true, true, true, true, true, true, true, true, true, true, true, true, true, false, false] rfl rfl (one_of HT_.out (by kernel_rfl)) (by decide) (fun K hK => ?_)
 refine call_ fn #[.agg #[.int .i64 y.f0, .int .i64 y.f1, .int .i64 y.f2, .int .i64 y.f3, .int .i64 y.f4, .slice A5 y.f5.length c5, .slice A6 y.f6.length c6]] (by rfl) rfl (by have he := fun w_ => many_enters fn hfn #[.agg #[.int .i64 y.f0, .int .i64 y.f1, .int .i64 y.f2, .int .i64 y.f3, .int .i64 y.f4, .slice A5 y.f5.length c5, .slice A6 y.f6.length c6]] w_; simp [execOp, resolve, Deferred.ofValue, invoke, Act.eval, he]) ?_
 refine (hmc _ (below_drew (Below.refl _ _))).mono ?_
 rintro e w2 ⟨rfl, hb2⟩
 have HB2 : Aside0 (Below w.heap.size w w2) := ⟨below_step (below_drew HB1.out) hb2⟩
 refine ⟨_, rfl, ?_⟩
 obtain ⟨z0, z1, z2, z3, z4, z5, z6, z7, z8⟩ := hHeld
 have a0 := pw_cell_below hb2 z0
 have a1 := pw_cell_below hb2 z1
 have a2 := pw_cell_below hb2 z2
 have a3 := pw_cell_below hb2 z3
 have a4 := pw_cell_below hb2 z4
 have a5 := pw_cell_below hb2 z5
 have a6 := pw_cell_below hb2 z6
 have a7 := pw_cell_below hb2 z7
 have a8 := pw_cell_below hb2 z8
 clear hb2 z0 z1 z2 z3 z4 z5 z6 z7 z8
 refine hK.out _ _ ⟨a0, a1, a2, a3, a4, a5, a6, a7, a8⟩ (fun hHeld => ?_)
 clear hK K
 refine norm_ (a' := ?_) ?_ ?_
 rotate_left
 ·show Act.put _ (some 34) _ = _
  go_simp
  rfl
 refine pure_ (i := 25) (N := some 35) (v := ?_) (a' := ?_) #[true, true, true, true, true, true, true, true, true, true, true, true, true, true, true, true, true, true, true, true, true, true, true, true, true, true, false] rfl rfl (any_of HT_.out (by kernel_rfl)) (fun _ _ _ h => h) (Or.inl ⟨by rfl, ?_⟩) ?_ ?_
 rotate_left
 ·intro w'
  go_simp
  with_reducible rfl
 rotate_left
 ·go_simp
  rfl
 refine pure_ (i := 26) (N := some 36) (v := ?_) (a' := ?_) #[true, true, true, true, true, true, true, true, true, true, true, true, true, true, true, true, true, true, true, true, true, true, true, true, true, true, true] rfl rfl (any_of HT_.out (by kernel_rfl)) (fun _ _ _ h => h) (Or.inl ⟨by rfl, ?_⟩) ?_ ?_
 rotate_left
 ·intro w'
  go_simp
  with_reducible rfl
 rotate_left
 ·go_simp
  rfl
 refine done_ (done_of HT_.out (by kernel_rfl)) ?_
 go_wp2
 go_ret
 exact ⟨rfl, HB2.out⟩
set_option maxHeartbeats 8000000 in
set_option maxRecDepth 100000 in
theorem may_ok (fn : Nat) (hfn : fn = 46 ∨ fn = 72) (A0 : Option Addr) (c0 : Nat) (l : List S42) (a b : Int) (w : World) (hC : Kd.C k42 w A0 l.length l) (hc0 : l.length ≤ c0) (hl : SmallL l) (hw : wholeB l = true) (h1 : 0 ≤ a) (h2 : a < (l.length : Int)) (h3 : 0 ≤ b) (h4 : b < manyS fn (rd_T42 l a)) :
  Calls Try.prog 45 #[.slice A0 l.length c0, .agg #[.int .i64 a, .int .i64 b], .func (.func fn) #[] #[]] w fun e w' => e = .returned (.int .i64 0) ∧ Below w.heap.size w w' := by
 have hwi := whole_is l hl 0
 have hn := wholeN hw
 rw [hw] at hwi
 have HW := Aside0.mk hwi
 have HC := Aside0.mk hC
 have HCC := Aside0.mk hc0
 clear hwi hw hl hC hc0
 have f1 : decide (a < 0) = false := decide_eq_false (by omega)
 have f2 : decide ((l.length : Int) ≤ a) = false := decide_eq_false (by omega)
 have f3 : decide (b < 0) = false := decide_eq_false (by omega)
 have f4 : decide (manyS fn (rd_T42 l a) ≤ b) = false := decide_eq_false (by omega)
 have p1 : (0 ≤ a) = True := eq_true h1
 have q1 : (a < (l.length : Int)) = True := eq_true h2
 have hat := fun W (hb : Below w.heap.size w W) => at_T42 (Kd.C_below HC.out hb) a h1 h2
 obtain ⟨y, hy⟩ : ∃ y, rd_T42 l a = y := ⟨_, rfl⟩
 rw [hy] at f4
 rw [hy] at hat
 clear hy h1 h2 h3 h4 hn
 go_enter Try.func45, Try.ntmps45
 go_upto_region 3 with (go_at_call 19; refine (cyl_Whole.calls _ A0 c0 l true _ (Kd.C_alloc HC.out _) HCC.out HW.out).mono ?_; rintro e w1 ⟨rfl, hb⟩; have HB1 : Aside0 (Below w.heap.size w w1) := ⟨below_step ((Below.refl _ w).alloc (Nat.le_refl _) _) hb⟩; have x0 : w1.cell? ⟨w.heap.size, 0, none⟩ = some (.int .i64 a) := pw_cell_below hb (by simp); have x1 : w1.cell? ⟨w.heap.size, 1, none⟩ = some (.int .i64 b) := pw_cell_below hb (by simp); clear hb)
 obtain ⟨ad, A5, c5, A6, c6, rfl, y0, y1, y2, y3, y4, y5, y6, l5, g5, l6, g6⟩ := hat w1 HB1.out
 have hmc := fun W (hb : Below w1.heap.size w1 W) => many_calls fn hfn y A5 c5 A6 c6 W (Kd.C_below g5 hb) l5 (Kd.C_below g6 hb) l6
 clear hat g5 l5 g6 l6
 refine start_ (n := 27) (S := fun w' => w'.cell? ⟨w.heap.size, 0, none⟩ = some (.int .i64 a) ∧ w'.cell? ⟨w.heap.size, 1, none⟩ = some (.int .i64 b) ∧ w'.cell? (ad.add (a.toNat * 7)) = some (.int .i64 y.f0) ∧ w'.cell? ⟨(ad.add (a.toNat * 7)).block, (ad.add (a.toNat * 7)).off + 1, none⟩ = some (.int .i64 y.f1) ∧ w'.cell? ⟨(ad.add (a.toNat * 7)).block, (ad.add (a.toNat * 7)).off + 2, none⟩ = some (.int .i64 y.f2) ∧ w'.cell? ⟨(ad.add (a.toNat * 7)).block, (ad.add (a.toNat * 7)).off + 3, none⟩ = some (.int .i64 y.f3) ∧ w'.cell? ⟨(ad.add (a.toNat * 7)).block, (ad.add (a.toNat * 7)).off + 4, none⟩ = some (.int .i64 y.f4) ∧ w'.cell? ⟨(ad.add (a.toNat * 7)).block, (ad.add (a.toNat * 7)).off + 5, none⟩ = some (.slice A5 y.f5.length c5) ∧ w'.cell? ⟨(ad.add (a.toNat * 7)).block, (ad.add (a.toNat * 7)).off + 6, none⟩ = some (.slice A6 y.f6.length c6)) (ds := []) #[false, false, false, false, false, false, false, false, false, false, false, false, false, false, false, false, false, false, false, false, false, false, false, false, false, false, false] (by kernel_rfl) rfl rfl ⟨x0, x1, y0, y1, y2, y3, y4, y5, y6⟩ (fun hHeld => ?_); refine with_tabW may_tab3 may_bits3 (fun HT_ HW_ => ?_)
 refine pure_ (i := 0) (N := some 10) (v := ?_) (a' := ?_) #[true, false, false, false, false, false, false, false, false, false, false, false, false, false, false, false, false, false, false, false, false, false, false, false, false, false, false] rfl rfl (any_of HT_.out (by kernel_rfl)) (fun _ _ _ h => h) (Or.inl ⟨by rfl, ?_⟩) ?_ ?_
 rotate_left
 ·intro w'
  go_simp
  with_reducible rfl
 rotate_left
 ·go_simp
  rfl
 refine take_ (i := 1) (N := some 11) (v := ?_) (a' := ?_) #[true, true, false, false, false, false, false, false, false, false, false, false, false, false, false, false, false, false, false, false, false, false, false, false, false, false, false] rfl rfl (take_ofW HT_.out HW_.out (by kernel_rfl)) (fun _ _ _ h => h) (Or.inl ⟨by rfl, ?_⟩) hHeld ?_ ?_
 rotate_left
 ·rintro w' ⟨s0, s1, s2, s3, s4, s5, s6, s7, s8⟩
  go_simp
  with_reducible rfl
 rotate_left
 ·go_simp
  rfl
 refine pure_ (i := 2) (N := some 12) (v := ?_) (a' := ?_) #[true, true, true, false, false, false, false, false, false, false, false, false, false, false, false, false, false, false, false, false, false, false, false, false, false, false, false] rfl rfl (any_of HT_.out (by kernel_rfl)) (fun _ _ _ h => h) (Or.inl ⟨by rfl, ?_⟩) ?_ ?_
 rotate_left
 ·intro w'
  go_simp
  with_reducible rfl
 rotate_left
 ·go_simp
  rfl
 refine pure_ (i := 3) (N := some 13) (v := ?_) (a' := ?_) #[true, true, true, true, false, false, false, false, false, false, false, false, false, false, false, false, false, false, false, false, false, false, false, false, false, false, false] rfl rfl (any_of HT_.out (by kernel_rfl)) (fun _ _ _ h => h) (Or.inl ⟨by rfl, ?_⟩) ?_ ?_
 rotate_left
 ·intro w'
  go_simp
  with_reducible rfl
 rotate_left
 ·go_simp
  rfl
 refine pure_ (i := 4) (N := some 14) (v := ?_) (a' := ?_) #[true, true, true, true, true, false, false, false, false, false, false, false, false, false, false, false, false, false, false, false, false, false, false, false, false, false, false] rfl rfl (any_of HT_.out (by kernel_rfl)) (fun _ _ _ h => h) (Or.inl ⟨by rfl, ?_⟩) ?_ ?_
 rotate_left
 ·intro w'
  go_simp
  with_reducible rfl
 rotate_left
 ·go_simp
  rfl
 refine take_ (i := 5) (N := some 15) (v := ?_) (a' := ?_) #[true, true, true, true, true, true, false, false, false, false, false, false, false, false, false, false, false, false, false, false, false, false, false, false, false, false, false] rfl rfl (take_ofW HT_.out HW_.out (by kernel_rfl)) (fun _ _ _ h => h) (Or.inl ⟨by rfl, ?_⟩) hHeld ?_ ?_
 rotate_left
 ·rintro w' ⟨s0, s1, s2, s3, s4, s5, s6, s7, s8⟩
  go_simp
  with_reducible rfl
 rotate_left
 ·go_simp
  rfl
 refine pure_ (i := 6) (N := some 16) (v := ?_) (a' := ?_) #[true, true, true, true, true, true, true, false, false, false, false, false, false, false, false, false, false, false, false, false, false, false, false, false, false, false, false] rfl rfl (any_of HT_.out (by kernel_rfl)) (fun _ _ _ h => h) (Or.inl ⟨by rfl, ?_⟩) ?_ ?_
 rotate_left
 ·intro w'
  go_simp
  with_reducible rfl
 rotate_left
 ·go_simp
  rfl
 refine pure_ (i := 7) (N := some 17) (v := ?_) (a' := ?_) #[true, true, true, true, true, true, true, true, false, false, false, false, false, false, false, false, false, false, false, false, false, false, false, false, false, false, false] rfl rfl (any_of HT_.out (by kernel_rfl)) (fun _ _ _ h => h) (Or.inl ⟨by rfl, ?_⟩) ?_ ?_
 rotate_left
 ·intro w'
  go_simp
  with_reducible rfl
 rotate_left
 ·go_simp
  rfl
 refine pure_ (i := 8) (N := some 18) (v := ?_) (a' := ?_) #[true, true, true, true, true, true, true, true, true, false, false, false, false, false, false, false, false, false, false, false, false, false, false, false, false, false, false] rfl rfl (any_of HT_.out (by kernel_rfl)) (fun _ _ _ h => h) (Or.inl ⟨by rfl, ?_⟩) ?_ ?_
 rotate_left
 ·intro w'
  go_simp
  with_reducible rfl
 rotate_left
 ·go_simp
  rfl
 refine pure_ (i := 9) (N := some 19) (v := ?_) (a' := ?_) #[true, true, true, true, true, true, true, true, true, true, false, false, false, false, false, false, false, false, false, false, false, false, false, false, false, false, false] rfl rfl (any_of HT_.out (by kernel_rfl)) (fun _ _ _ h => h) (Or.inl ⟨by rfl, ?_⟩) ?_ ?_
 rotate_left
 ·intro w'
  go_simp
  with_reducible rfl
 rotate_left
 ·go_simp
  rfl
 refine pure_ (i := 10) (N := some 20) (v := ?_) (a' := ?_) #[true, true, true, true, true, true, true, true, true, true, true, false, false, false, false, false, false, false, false, false, false, false, false, false, false, false, false] rfl rfl (any_of HT_.out (by kernel_rfl)) (fun _ _ _ h => h) (Or.inl ⟨by rfl, ?_⟩) ?_ ?_
 rotate_left
 ·intro w'
  go_simp
  with_reducible rfl
 rotate_left
 ·go_simp
  rfl
 refine pure_ (i := 11) (N := some 21) (v := ?_) (a' := ?_) #[true, true, true, true, true, true, true, true, true, true, true, true, false, false, false, false, false, false, false, false, false, false, false, false, false, false, false] rfl rfl (any_of HT_.out (by kernel_rfl)) (fun _ _ _ h => h) (Or.inl ⟨by rfl, ?_⟩) ?_ ?_
 rotate_left
 ·intro w'
  go_simp
  with_reducible rfl
 rotate_left
 ·go_simp
  rfl
 refine take_ (i := 12) (N := some 22) (v := ?_) (a' := ?_) #[true, true, true, true, true, true, true, true, true, true, true, true, true, false, false, false, false, false, false, false, false, false, false, false, false, false, false] rfl rfl (take_ofW HT_.out HW_.out (by kernel_rfl)) (fun _ _ _ h => h) (Or.inl ⟨by rfl, ?_⟩) hHeld ?_ ?_
 rotate_left
 ·rintro w' ⟨s0, s1, s2, s3, s4, s5, s6, s7, s8⟩
  go_simp
  with_reducible rfl
 rotate_left
 ·go_simp
  rfl
 refine pure_ (i := 13) (N := some 23) (v := ?_) (a' := ?_) #[true, true, true, true, true, true, true, true, true, true, true, true, true, true, false, false, false, false, false, false, false, false, false, false, false, false, false] rfl rfl (any_of HT_.out (by kernel_rfl)) (fun _ _ _ h => h) (Or.inl ⟨by rfl, ?_⟩) ?_ ?_
 rotate_left
 ·intro w'
  go_simp
  with_reducible rfl
 rotate_left
 ·go_simp
  rfl
 refine pure_ (i := 14) (N := some 24) (v := ?_) (a' := ?_) #[true, true, true, true, true, true, true, true, true, true, true, true, true, true, true, false, false, false, false, false, false, false, false, false, false, false, false] rfl rfl (any_of HT_.out (by kernel_rfl)) (fun _ _ _ h => h) (Or.inl ⟨by rfl, ?_⟩) ?_ ?_
 rotate_left
 ·intro w'
  go_simp
  with_reducible rfl
 rotate_left
 ·go_simp
  rfl
 refine pure_ (i := 15) (N := some 25) (v := ?_) (a' := ?_) #[true, true, true, true, true, true, true, true, true, true, true, true, true, true, true, true, false, false, false, false, false, false, false, false, false, false, false] rfl rfl (any_of HT_.out (by kernel_rfl)) (fun _ _ _ h => h) (Or.inl ⟨by rfl, ?_⟩) ?_ ?_
 rotate_left
 ·intro w'
  go_simp
  with_reducible rfl
 rotate_left
 ·go_simp
  rfl
 refine pure_ (i := 16) (N := some 26) (v := ?_) (a' := ?_) #[true, true, true, true, true, true, true, true, true, true, true, true, true, true, true, true, true, false, false, false, false, false, false, false, false, false, false] rfl rfl (any_of HT_.out (by kernel_rfl)) (fun _ _ _ h => h) (Or.inl ⟨by rfl, ?_⟩) ?_ ?_
 rotate_left
 ·intro w'
  go_simp
  with_reducible rfl
 rotate_left
 ·go_simp
  rfl
 refine take_ (i := 17) (N := some 27) (v := ?_) (a' := ?_) #[true, true, true, true, true, true, true, true, true, true, true, true, true, true, true, true, true, true, false, false, false, false, false, false, false, false, false] rfl rfl (take_ofW HT_.out HW_.out (by kernel_rfl)) (fun _ _ _ h => h) (Or.inl ⟨by rfl, ?_⟩) hHeld ?_ ?_
 rotate_left
 ·rintro w' ⟨s0, s1, s2, s3, s4, s5, s6, s7, s8⟩
  go_simp
  with_reducible rfl
 rotate_left
 ·go_simp
  rfl
 refine pure_ (i := 18) (N := some 28) (v := ?_) (a' := ?_) #[true, true, true, true, true, true, true, true, true, true, true, true, true, true, true, true, true, true, true, false, false, false, false, false, false, false, false] rfl rfl (any_of HT_.out (by kernel_rfl)) (fun _ _ _ h => h) (Or.inl ⟨by rfl, ?_⟩) ?_ ?_
 rotate_left
 ·intro w'
  go_simp
  with_reducible rfl
 rotate_left
 ·go_simp
  rfl
 refine pure_ (i := 19) (N := some 29) (v := ?_) (a' := ?_) #[true, true, true, true, true, true, true, true, true, true, true, true, true, true, true, true, true, true, true, true, false, false, false, false, false, false, false] rfl rfl (any_of HT_.out (by kernel_rfl)) (fun _ _ _ h => h) (Or.inl ⟨by rfl, ?_⟩) ?_ ?_
 rotate_left
 ·intro w'
  go_simp
  with_reducible rfl
 rotate_left
 ·go_simp
  rfl
 refine pure_ (i := 20) (N := some 30) (v := ?_) (a' := ?_) #[true, true, true, true, true, true, true, true, true, true, true, true, true, true, true, true, true, true, true, true, true, false, false, false, false, false, false] rfl rfl (any_of HT_.out (by kernel_rfl)) (fun _ _ _ h => h) (Or.inl ⟨by rfl, ?_⟩) ?_ ?_
 rotate_left
 ·intro w'
  go_simp
  with_reducible rfl
 rotate_left
 ·go_simp
  rfl
 refine take_ (i := 21) (N := some 31) (v := ?_) (a' := ?_) #[true, true, true, true, true, true, true, true, true, true, true, true, true, true, true, true, true, true, true, true, true, true, false, false, false, false, false] rfl rfl (take_ofW HT_.out HW_.out (by kernel_rfl)) (fun _ _ _ h => h) (Or.inl ⟨by rfl, ?_⟩) hHeld ?_ ?_
 rotate_left
 ·rintro w' ⟨s0, s1, s2, s3, s4, s5, s6, s7, s8⟩
  go_simp
  with_reducible rfl
 rotate_left
 ·go_simp
  rfl
 refine pure_ (i := 22) (N := some 32) (v := ?_) (a' := ?_) #[true, true, true, true, true, true, true, true, true, true, true, true, true, true, true, true, true, true, true, true, true, true, true, false, false, false, false] rfl rfl (any_of HT_.out (by kernel_rfl)) (fun _ _ _ h => h) (Or.inl ⟨by rfl, ?_⟩) ?_ ?_
 rotate_left
 ·intro w'
  go_simp
  with_reducible rfl
 rotate_left
 ·go_simp
  rfl
 refine take_ (i := 23) (N := some 33) (v := ?_) (a' := ?_) #[true, true, true, true, true, true, true, true, true, true, true, true, true, true, true, true, true, true, true, true, true, true, true, true, false, false, false] rfl rfl (take_ofW HT_.out HW_.out (by kernel_rfl)) (fun _ _ _ h => h) (Or.inl ⟨by rfl, ?_⟩) hHeld ?_ ?_
 rotate_left
 ·rintro w' ⟨s0, s1, s2, s3, s4, s5, s6, s7, s8⟩
  go_simp
  with_reducible rfl
 rotate_left
 ·go_simp
  rfl
 refine one_ (i := 24) (N := some 34) #[true, true, true, true, true, true, true, true, true, true, true, true, true, true, true, true, true, true, true, true, true, true, true, true, true, false, false] rfl rfl (one_of HT_.out (by kernel_rfl)) (by decide) (fun K hK => ?_)
 refine call_ fn #[.agg #[.int .i64 y.f0, .int .i64 y.f1, .int .i64 y.f2, .int .i64 y.f3, .int .i64 y.f4, .slice A5 y.f5.length c5, .slice A6 y.f6.length c6]] (by rfl) rfl (by have he := fun w_ => many_enters fn hfn #[.agg #[.int .i64 y.f0, .int .i64 y.f1, .int .i64 y.f2, .int .i64 y.f3, .int .i64 y.f4, .slice A5 y.f5.length c5, .slice A6 y.f6.length c6]] w_; simp [execOp, resolve, Deferred.ofValue, invoke, Act.eval, he]) ?_
 refine (hmc _ (below_drew (Below.refl _ _))).mono ?_
 rintro e w2 ⟨rfl, hb2⟩
 have HB2 : Aside0 (Below w.heap.size w w2) := ⟨below_step (below_drew HB1.out) hb2⟩
 refine ⟨_, rfl, ?_⟩
 obtain ⟨z0, z1, z2, z3, z4, z5, z6, z7, z8⟩ := hHeld
 have a0 := pw_cell_below hb2 z0
 have a1 := pw_cell_below hb2 z1
 have a2 := pw_cell_below hb2 z2
 have a3 := pw_cell_below hb2 z3
 have a4 := pw_cell_below hb2 z4
 have a5 := pw_cell_below hb2 z5
 have a6 := pw_cell_below hb2 z6
 have a7 := pw_cell_below hb2 z7
 have a8 := pw_cell_below hb2 z8
 clear hb2 z0 z1 z2 z3 z4 z5 z6 z7 z8
 refine hK.out _ _ ⟨a0, a1, a2, a3, a4, a5, a6, a7, a8⟩ (fun hHeld => ?_)
 clear hK K
 refine norm_ (a' := ?_) ?_ ?_
 rotate_left
 ·show Act.put _ (some 34) _ = _
  go_simp
  rfl
 refine pure_ (i := 25) (N := some 35) (v := ?_) (a' := ?_) #[true, true, true, true, true, true, true, true, true, true, true, true, true, true, true, true, true, true, true, true, true, true, true, true, true, true, false] rfl rfl (any_of HT_.out (by kernel_rfl)) (fun _ _ _ h => h) (Or.inl ⟨by rfl, ?_⟩) ?_ ?_
 rotate_left
 ·intro w'
  go_simp
  with_reducible rfl
 rotate_left
 ·go_simp
  rfl
 refine pure_ (i := 26) (N := some 36) (v := ?_) (a' := ?_) #[true, true, true, true, true, true, true, true, true, true, true, true, true, true, true, true, true, true, true, true, true, true, true, true, true, true, true] rfl rfl (any_of HT_.out (by kernel_rfl)) (fun _ _ _ h => h) (Or.inl ⟨by rfl, ?_⟩) ?_ ?_
 rotate_left
 ·intro w'
  go_simp
  with_reducible rfl
 rotate_left
 ·go_simp
  rfl
 refine done_ (done_of HT_.out (by kernel_rfl)) ?_
 go_wp2
 go_ret
 exact ⟨rfl, HB2.out⟩
def cyl_may.f (l : List S42) (a b : Int) (fn : Nat) : Option Int := if SmallL l ∧ (fn = 46 ∨ fn = 72) then some (mayS l a b fn) else none
theorem cyl_may.calls (A0 : Option Addr) (c0 : Nat) (l0 : List S42) (a b : Int) (fn : Nat) (r : Int) (w : World) (hr0 : Kd.C k42 w A0 l0.length l0) (hc0 : l0.length ≤ c0) (h : cyl_may.f l0 a b fn = some r) :
  Calls Try.prog 45 #[.slice A0 l0.length c0, .agg #[.int .i64 a, .int .i64 b], .func (.func fn) #[] #[]] w fun e w' => e = .returned (.int .i64 r) ∧ Below w.heap.size w w' := by
 unfold cyl_may.f at h
 by_cases hc : SmallL l0 ∧ (fn = 46 ∨ fn = 72)
 ·rw [if_pos hc] at h
  obtain rfl := Option.some.inj h
  unfold mayS
  cases hw : wholeB l0 with
  | false => rw [if_pos rfl]; exact may_wrong fn A0 c0 l0 a b w hr0 hc0 hc.1 hw
  | true =>
   rw [if_neg (by decide)]
   by_cases h1 : a < 0
   ·rw [if_pos (.inl h1)]; exact may_a0 fn A0 c0 l0 a b w hr0 hc0 hc.1 hw h1
   ·by_cases h2 : (l0.length : Int) ≤ a
    ·rw [if_pos (.inr (.inl h2))]; exact may_a1 fn A0 c0 l0 a b w hr0 hc0 hc.1 hw (by omega) h2
    ·by_cases h3 : b < 0
     ·rw [if_pos (.inr (.inr (.inl h3)))]; exact may_b0 fn A0 c0 l0 a b w hr0 hc0 hc.1 hw (by omega) (by omega) h3
     ·by_cases h4 : manyS fn (rd_T42 l0 a) ≤ b
      ·rw [if_pos (.inr (.inr (.inr h4)))]; exact may_big fn hc.2 A0 c0 l0 a b w hr0 hc0 hc.1 hw (by omega) (by omega) (by omega) h4
      ·rw [if_neg (by omega)]; exact may_ok fn hc.2 A0 c0 l0 a b w hr0 hc0 hc.1 hw (by omega) (by omega) (by omega) (by omega)
 ·rw [if_neg hc] at h; cases h
end Go.Proofs.Ytehjmmedghcndaa.PG
